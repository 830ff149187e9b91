-- Written by ext.sh (the session's own program, over the kit's printer) out of the translation. Lean checks it.
import Derived.Test.YtejminfpgnlpkaaPSuppressTwox0
import Derived.Test.YtejminfpgnlpkaaPSuppressTwox2
import Derived.Test.YtejminfpgnlpkaaPSuppressTwox3
import Derived.Test.YtejminfpgnlpkaaPSuppressTwox4
namespace Go.Proofs.Ytejminfpgnlpkaa.PSuppressTwo
open Go.RowKit Go.Proofs.YtejminfpgnlpkaaW.PrintWords Go.Proofs.YtejminfpgnlpkaaW.PrintLast Go.Proofs.YtejminfpgnlpkaaW.PrintMore
attribute [local go_sem] max2_int min2_int max_two min_two max_three min_three max_four min_four   -- for this text's walks alone
set_option linter.unusedVariables false
set_option linter.unusedSimpArgs false

/-! ### terracelaw17_SuppressTwo: function 5 -/
mutual
def terracelaw17_SuppressTwo.j0 : Nat → Int → Int → Bool → Int → Int → Int → Int → Int → Int → Int → Int → Int → Bool → Int → Int → Int → Bool → Option (Bool)
  | 0, _, _, _, _, _, _, _, _, _, _, _, _, _, _, _, _, _ => none
  | k + 1, x3, x5, x52, x176000, x176001, x176002, x176003, x176004, x176005, x185000, x185001, x185002, x185003, x190000, x190001, x190002, x190003 => if x52 = true then ((terracelaw17_awake.f k).bind fun t190 => (some t190)) else ((suppress_Round_Start.f k x185000 x185001 x185002 x185003 1 0 x3 x176002).bind fun bt191 => (if bt191.1 = 0 then ((suppress_Round_Start.f k x190000 x190001 x190002 x190003 1 0 x5 x176003).bind fun bt196 => (terracelaw17_SuppressTwo.j1 k (bt196.1 != 0) x176000 x176001 x176002 x176003 x176004 x176005 bt191.2.1 bt191.2.2.1 bt191.2.2.2.1 bt191.2.2.2.2 bt196.2.1 bt196.2.2.1 bt196.2.2.2.1 bt196.2.2.2.2)) else (terracelaw17_SuppressTwo.j1 k true x176000 x176001 x176002 x176003 x176004 x176005 bt191.2.1 bt191.2.2.1 bt191.2.2.2.1 bt191.2.2.2.2 x190000 x190001 x190002 x190003)))
def terracelaw17_SuppressTwo.j1 : Nat → Bool → Int → Int → Int → Int → Int → Int → Int → Int → Int → Bool → Int → Int → Int → Bool → Option (Bool)
  | 0, _, _, _, _, _, _, _, _, _, _, _, _, _, _, _ => none
  | k + 1, x67, x176000, x176001, x176002, x176003, x176004, x176005, x185000, x185001, x185002, x185003, x190000, x190001, x190002, x190003 => if x67 = true then (some false) else (terracelaw17_SuppressTwo.l0 k 0 0 (wrap64 (x176004 + 1)) 0 x176000 x176001 x176002 x176003 x176004 x176005 x185000 x185001 x185002 x185003 x190000 x190001 x190002 x190003)
def terracelaw17_SuppressTwo.l0 : Nat → Int → Int → Int → Int → Int → Int → Int → Int → Int → Int → Int → Int → Int → Bool → Int → Int → Int → Bool → Option (Bool)
  | 0, _, _, _, _, _, _, _, _, _, _, _, _, _, _, _, _, _, _ => none
  | k + 1, x9, x10, x70, x71, x176000, x176001, x176002, x176003, x176004, x176005, x185000, x185001, x185002, x185003, x190000, x190001, x190002, x190003 => if x71 < x70 then ((suppress_Round_Fire.f x185000 x185001 x185002 x185003 x71).bind fun bt202 => ((suppress_Round_Fire.f x190000 x190001 x190002 x190003 x71).bind fun bt207 => ((terracelaw17_bit.f bt202.1).bind fun t212 => ((terracelaw17_bit.f bt207.1).bind fun t213 => (if bt202.1 = true then ((suppress_Round_Echo.f bt207.2.1 bt207.2.2.1 bt207.2.2.2.1 bt207.2.2.2.2 1 x176002).bind fun bt214 => (terracelaw17_SuppressTwo.j3 k (wrap64 (x9 + (wrap64 (t212 + t213)))) x10 bt207.1 x70 x71 bt214.1 x176000 x176001 x176002 x176003 x176004 x176005 bt202.2.1 bt202.2.2.1 bt202.2.2.2.1 bt202.2.2.2.2 bt214.2.1 bt214.2.2.1 bt214.2.2.2.1 bt214.2.2.2.2)) else (terracelaw17_SuppressTwo.j3 k (wrap64 (x9 + (wrap64 (t212 + t213)))) x10 bt207.1 x70 x71 false x176000 x176001 x176002 x176003 x176004 x176005 bt202.2.1 bt202.2.2.1 bt202.2.2.2.1 bt202.2.2.2.2 bt207.2.1 bt207.2.2.1 bt207.2.2.2.1 bt207.2.2.2.2)))))) else (if x9 ≥ 1 then (if (wrap64 (x9 + x10)) = 2 then ((terracelaw17_awake.f k).bind fun t201 => (some t201)) else (some false)) else (some false))
def terracelaw17_SuppressTwo.j3 : Nat → Int → Int → Bool → Int → Int → Bool → Int → Int → Int → Int → Int → Int → Int → Int → Int → Bool → Int → Int → Int → Bool → Option (Bool)
  | 0, _, _, _, _, _, _, _, _, _, _, _, _, _, _, _, _, _, _, _, _ => none
  | k + 1, x9, x10, x13, x70, x71, x93, x176000, x176001, x176002, x176003, x176004, x176005, x185000, x185001, x185002, x185003, x190000, x190001, x190002, x190003 => if x93 = true then (if x13 = true then ((suppress_Round_Echo.f x185000 x185001 x185002 x185003 1 x176003).bind fun bt219 => (if bt219.1 = true then (terracelaw17_SuppressTwo.l0 k x9 (wrap64 ((wrap64 (x10 + 1)) + 1)) x70 (wrap64 (x71 + 1)) x176000 x176001 x176002 x176003 x176004 x176005 bt219.2.1 bt219.2.2.1 bt219.2.2.2.1 bt219.2.2.2.2 x190000 x190001 x190002 x190003) else (terracelaw17_SuppressTwo.l0 k x9 (wrap64 (x10 + 1)) x70 (wrap64 (x71 + 1)) x176000 x176001 x176002 x176003 x176004 x176005 bt219.2.1 bt219.2.2.1 bt219.2.2.2.1 bt219.2.2.2.2 x190000 x190001 x190002 x190003))) else (terracelaw17_SuppressTwo.l0 k x9 (wrap64 (x10 + 1)) x70 (wrap64 (x71 + 1)) x176000 x176001 x176002 x176003 x176004 x176005 x185000 x185001 x185002 x185003 x190000 x190001 x190002 x190003)) else (if x13 = true then ((suppress_Round_Echo.f x185000 x185001 x185002 x185003 1 x176003).bind fun bt224 => (if bt224.1 = true then (terracelaw17_SuppressTwo.l0 k x9 (wrap64 (x10 + 1)) x70 (wrap64 (x71 + 1)) x176000 x176001 x176002 x176003 x176004 x176005 bt224.2.1 bt224.2.2.1 bt224.2.2.2.1 bt224.2.2.2.2 x190000 x190001 x190002 x190003) else (terracelaw17_SuppressTwo.l0 k x9 x10 x70 (wrap64 (x71 + 1)) x176000 x176001 x176002 x176003 x176004 x176005 bt224.2.1 bt224.2.2.1 bt224.2.2.2.1 bt224.2.2.2.2 x190000 x190001 x190002 x190003))) else (terracelaw17_SuppressTwo.l0 k x9 x10 x70 (wrap64 (x71 + 1)) x176000 x176001 x176002 x176003 x176004 x176005 x185000 x185001 x185002 x185003 x190000 x190001 x190002 x190003))
end
def terracelaw17_SuppressTwo.f (k : Nat) (a0_0 : Int) (a0_1 : Int) (a0_2 : Int) (a0_3 : Int) (a0_4 : Int) (a0_5 : Int) : Option (Bool) := (suppress_Wait.f k a0_0 a0_4 a0_5).bind fun bt176 => ((suppress_Wait.f k a0_1 a0_4 a0_5).bind fun bt178 => ((suppress_New.f).bind fun bt180 => ((suppress_New.f).bind fun bt185 => (if bt176.2 = 0 then (if bt178.2 = 0 then (terracelaw17_SuppressTwo.j0 k bt176.1 bt178.1 (decide (a0_4 > 5000)) a0_0 a0_1 a0_2 a0_3 a0_4 a0_5 bt180.1 bt180.2.1 bt180.2.2.1 bt180.2.2.2 bt185.1 bt185.2.1 bt185.2.2.1 bt185.2.2.2) else (terracelaw17_SuppressTwo.j0 k bt176.1 bt178.1 true a0_0 a0_1 a0_2 a0_3 a0_4 a0_5 bt180.1 bt180.2.1 bt180.2.2.1 bt180.2.2.2 bt185.1 bt185.2.1 bt185.2.2.1 bt185.2.2.2)) else (terracelaw17_SuppressTwo.j0 k bt176.1 bt178.1 true a0_0 a0_1 a0_2 a0_3 a0_4 a0_5 bt180.1 bt180.2.1 bt180.2.2.1 bt180.2.2.2 bt185.1 bt185.2.1 bt185.2.2.1 bt185.2.2.2)))))
theorem terracelaw17_SuppressTwo.mono_l : ∀ k, (∀ y0 y1 y2 y3 y4 y5 y6 y7 y8 y9 y10 y11 y12 y13 y14 y15 y16, LeO (terracelaw17_SuppressTwo.j0 k y0 y1 y2 y3 y4 y5 y6 y7 y8 y9 y10 y11 y12 y13 y14 y15 y16) (terracelaw17_SuppressTwo.j0 (k + 1) y0 y1 y2 y3 y4 y5 y6 y7 y8 y9 y10 y11 y12 y13 y14 y15 y16)) ∧ (∀ y0 y1 y2 y3 y4 y5 y6 y7 y8 y9 y10 y11 y12 y13 y14, LeO (terracelaw17_SuppressTwo.j1 k y0 y1 y2 y3 y4 y5 y6 y7 y8 y9 y10 y11 y12 y13 y14) (terracelaw17_SuppressTwo.j1 (k + 1) y0 y1 y2 y3 y4 y5 y6 y7 y8 y9 y10 y11 y12 y13 y14)) ∧ (∀ y0 y1 y2 y3 y4 y5 y6 y7 y8 y9 y10 y11 y12 y13 y14 y15 y16 y17, LeO (terracelaw17_SuppressTwo.l0 k y0 y1 y2 y3 y4 y5 y6 y7 y8 y9 y10 y11 y12 y13 y14 y15 y16 y17) (terracelaw17_SuppressTwo.l0 (k + 1) y0 y1 y2 y3 y4 y5 y6 y7 y8 y9 y10 y11 y12 y13 y14 y15 y16 y17)) ∧ (∀ y0 y1 y2 y3 y4 y5 y6 y7 y8 y9 y10 y11 y12 y13 y14 y15 y16 y17 y18 y19, LeO (terracelaw17_SuppressTwo.j3 k y0 y1 y2 y3 y4 y5 y6 y7 y8 y9 y10 y11 y12 y13 y14 y15 y16 y17 y18 y19) (terracelaw17_SuppressTwo.j3 (k + 1) y0 y1 y2 y3 y4 y5 y6 y7 y8 y9 y10 y11 y12 y13 y14 y15 y16 y17 y18 y19))
  | 0 => ⟨fun _ _ _ _ _ _ _ _ _ _ _ _ _ _ _ _ _ r h => by simp [terracelaw17_SuppressTwo.j0] at h, fun _ _ _ _ _ _ _ _ _ _ _ _ _ _ _ r h => by simp [terracelaw17_SuppressTwo.j1] at h, fun _ _ _ _ _ _ _ _ _ _ _ _ _ _ _ _ _ _ r h => by simp [terracelaw17_SuppressTwo.l0] at h, fun _ _ _ _ _ _ _ _ _ _ _ _ _ _ _ _ _ _ _ _ r h => by simp [terracelaw17_SuppressTwo.j3] at h⟩
  | k + 1 => by
    obtain ⟨ih0, ih1, ih2, ih3⟩ := terracelaw17_SuppressTwo.mono_l k
    refine ⟨?_, ?_, ?_, ?_⟩
    · intro y0 y1 y2 y3 y4 y5 y6 y7 y8 y9 y10 y11 y12 y13 y14 y15 y16
      unfold terracelaw17_SuppressTwo.j0
      repeat' first
      | (with_reducible exact ih0 _ _ _ _ _ _ _ _ _ _ _ _ _ _ _ _ _)
      | (with_reducible exact ih1 _ _ _ _ _ _ _ _ _ _ _ _ _ _ _)
      | (with_reducible exact ih2 _ _ _ _ _ _ _ _ _ _ _ _ _ _ _ _ _ _)
      | (with_reducible exact ih3 _ _ _ _ _ _ _ _ _ _ _ _ _ _ _ _ _ _ _ _)
      | (with_reducible exact suppress_Round_Start.mono _ _ _ _ _ _ _ _ _)
      | (with_reducible exact suppress_Wait.mono _ _ _ _)
      | (with_reducible exact terracelaw17_awake.mono _)
      | (with_reducible exact LeO.refl _)
      | (with_reducible exact LeO.none _)
      | (with_reducible refine LeO.ite ?_ ?_)
      | (with_reducible refine LeO.bind ?_ (fun _ => ?_))
      | exact ih0 _ _ _ _ _ _ _ _ _ _ _ _ _ _ _ _ _
      | exact ih1 _ _ _ _ _ _ _ _ _ _ _ _ _ _ _
      | exact ih2 _ _ _ _ _ _ _ _ _ _ _ _ _ _ _ _ _ _
      | exact ih3 _ _ _ _ _ _ _ _ _ _ _ _ _ _ _ _ _ _ _ _
      | exact suppress_Round_Start.mono _ _ _ _ _ _ _ _ _
      | exact suppress_Wait.mono _ _ _ _
      | exact terracelaw17_awake.mono _
      | exact LeO.none _
      | refine LeO.ite ?_ ?_
      | refine LeO.bind ?_ (fun _ => ?_)
    · intro y0 y1 y2 y3 y4 y5 y6 y7 y8 y9 y10 y11 y12 y13 y14
      unfold terracelaw17_SuppressTwo.j1
      repeat' first
      | (with_reducible exact ih0 _ _ _ _ _ _ _ _ _ _ _ _ _ _ _ _ _)
      | (with_reducible exact ih1 _ _ _ _ _ _ _ _ _ _ _ _ _ _ _)
      | (with_reducible exact ih2 _ _ _ _ _ _ _ _ _ _ _ _ _ _ _ _ _ _)
      | (with_reducible exact ih3 _ _ _ _ _ _ _ _ _ _ _ _ _ _ _ _ _ _ _ _)
      | (with_reducible exact suppress_Round_Start.mono _ _ _ _ _ _ _ _ _)
      | (with_reducible exact suppress_Wait.mono _ _ _ _)
      | (with_reducible exact terracelaw17_awake.mono _)
      | (with_reducible exact LeO.refl _)
      | (with_reducible exact LeO.none _)
      | (with_reducible refine LeO.ite ?_ ?_)
      | (with_reducible refine LeO.bind ?_ (fun _ => ?_))
      | exact ih0 _ _ _ _ _ _ _ _ _ _ _ _ _ _ _ _ _
      | exact ih1 _ _ _ _ _ _ _ _ _ _ _ _ _ _ _
      | exact ih2 _ _ _ _ _ _ _ _ _ _ _ _ _ _ _ _ _ _
      | exact ih3 _ _ _ _ _ _ _ _ _ _ _ _ _ _ _ _ _ _ _ _
      | exact suppress_Round_Start.mono _ _ _ _ _ _ _ _ _
      | exact suppress_Wait.mono _ _ _ _
      | exact terracelaw17_awake.mono _
      | exact LeO.none _
      | refine LeO.ite ?_ ?_
      | refine LeO.bind ?_ (fun _ => ?_)
    · intro y0 y1 y2 y3 y4 y5 y6 y7 y8 y9 y10 y11 y12 y13 y14 y15 y16 y17
      unfold terracelaw17_SuppressTwo.l0
      repeat' first
      | (with_reducible exact ih0 _ _ _ _ _ _ _ _ _ _ _ _ _ _ _ _ _)
      | (with_reducible exact ih1 _ _ _ _ _ _ _ _ _ _ _ _ _ _ _)
      | (with_reducible exact ih2 _ _ _ _ _ _ _ _ _ _ _ _ _ _ _ _ _ _)
      | (with_reducible exact ih3 _ _ _ _ _ _ _ _ _ _ _ _ _ _ _ _ _ _ _ _)
      | (with_reducible exact suppress_Round_Start.mono _ _ _ _ _ _ _ _ _)
      | (with_reducible exact suppress_Wait.mono _ _ _ _)
      | (with_reducible exact terracelaw17_awake.mono _)
      | (with_reducible exact LeO.refl _)
      | (with_reducible exact LeO.none _)
      | (with_reducible refine LeO.ite ?_ ?_)
      | (with_reducible refine LeO.bind ?_ (fun _ => ?_))
      | exact ih0 _ _ _ _ _ _ _ _ _ _ _ _ _ _ _ _ _
      | exact ih1 _ _ _ _ _ _ _ _ _ _ _ _ _ _ _
      | exact ih2 _ _ _ _ _ _ _ _ _ _ _ _ _ _ _ _ _ _
      | exact ih3 _ _ _ _ _ _ _ _ _ _ _ _ _ _ _ _ _ _ _ _
      | exact suppress_Round_Start.mono _ _ _ _ _ _ _ _ _
      | exact suppress_Wait.mono _ _ _ _
      | exact terracelaw17_awake.mono _
      | exact LeO.none _
      | refine LeO.ite ?_ ?_
      | refine LeO.bind ?_ (fun _ => ?_)
    · intro y0 y1 y2 y3 y4 y5 y6 y7 y8 y9 y10 y11 y12 y13 y14 y15 y16 y17 y18 y19
      unfold terracelaw17_SuppressTwo.j3
      repeat' first
      | (with_reducible exact ih0 _ _ _ _ _ _ _ _ _ _ _ _ _ _ _ _ _)
      | (with_reducible exact ih1 _ _ _ _ _ _ _ _ _ _ _ _ _ _ _)
      | (with_reducible exact ih2 _ _ _ _ _ _ _ _ _ _ _ _ _ _ _ _ _ _)
      | (with_reducible exact ih3 _ _ _ _ _ _ _ _ _ _ _ _ _ _ _ _ _ _ _ _)
      | (with_reducible exact suppress_Round_Start.mono _ _ _ _ _ _ _ _ _)
      | (with_reducible exact suppress_Wait.mono _ _ _ _)
      | (with_reducible exact terracelaw17_awake.mono _)
      | (with_reducible exact LeO.refl _)
      | (with_reducible exact LeO.none _)
      | (with_reducible refine LeO.ite ?_ ?_)
      | (with_reducible refine LeO.bind ?_ (fun _ => ?_))
      | exact ih0 _ _ _ _ _ _ _ _ _ _ _ _ _ _ _ _ _
      | exact ih1 _ _ _ _ _ _ _ _ _ _ _ _ _ _ _
      | exact ih2 _ _ _ _ _ _ _ _ _ _ _ _ _ _ _ _ _ _
      | exact ih3 _ _ _ _ _ _ _ _ _ _ _ _ _ _ _ _ _ _ _ _
      | exact suppress_Round_Start.mono _ _ _ _ _ _ _ _ _
      | exact suppress_Wait.mono _ _ _ _
      | exact terracelaw17_awake.mono _
      | exact LeO.none _
      | refine LeO.ite ?_ ?_
      | refine LeO.bind ?_ (fun _ => ?_)
theorem terracelaw17_SuppressTwo.mono : ∀ a0 a1 a2 a3 a4 a5 k, LeO (terracelaw17_SuppressTwo.f k a0 a1 a2 a3 a4 a5) (terracelaw17_SuppressTwo.f (k + 1) a0 a1 a2 a3 a4 a5) := by
  intro a0 a1 a2 a3 a4 a5 k
  obtain ⟨ih0, ih1, ih2, ih3⟩ := terracelaw17_SuppressTwo.mono_l k
  unfold terracelaw17_SuppressTwo.f
  repeat' first
      | (with_reducible exact ih0 _ _ _ _ _ _ _ _ _ _ _ _ _ _ _ _ _)
      | (with_reducible exact ih1 _ _ _ _ _ _ _ _ _ _ _ _ _ _ _)
      | (with_reducible exact ih2 _ _ _ _ _ _ _ _ _ _ _ _ _ _ _ _ _ _)
      | (with_reducible exact ih3 _ _ _ _ _ _ _ _ _ _ _ _ _ _ _ _ _ _ _ _)
      | (with_reducible exact suppress_Round_Start.mono _ _ _ _ _ _ _ _ _)
      | (with_reducible exact suppress_Wait.mono _ _ _ _)
      | (with_reducible exact terracelaw17_awake.mono _)
      | (with_reducible exact LeO.refl _)
      | (with_reducible exact LeO.none _)
      | (with_reducible refine LeO.ite ?_ ?_)
      | (with_reducible refine LeO.bind ?_ (fun _ => ?_))
      | exact ih0 _ _ _ _ _ _ _ _ _ _ _ _ _ _ _ _ _
      | exact ih1 _ _ _ _ _ _ _ _ _ _ _ _ _ _ _
      | exact ih2 _ _ _ _ _ _ _ _ _ _ _ _ _ _ _ _ _ _
      | exact ih3 _ _ _ _ _ _ _ _ _ _ _ _ _ _ _ _ _ _ _ _
      | exact suppress_Round_Start.mono _ _ _ _ _ _ _ _ _
      | exact suppress_Wait.mono _ _ _ _
      | exact terracelaw17_awake.mono _
      | exact LeO.none _
      | refine LeO.ite ?_ ?_
      | refine LeO.bind ?_ (fun _ => ?_)
set_option maxHeartbeats 8000000 in
set_option maxRecDepth 100000 in
theorem terracelaw17_SuppressTwo.calls (k : Nat) (a0_0 : Int) (a0_1 : Int) (a0_2 : Int) (a0_3 : Int) (a0_4 : Int) (a0_5 : Int) (r : Bool) (w : World) (h : terracelaw17_SuppressTwo.f k a0_0 a0_1 a0_2 a0_3 a0_4 a0_5 = some r) :
    Calls Try.prog 5 #[.agg #[.int .u64 a0_0, .int .u64 a0_1, .int .u64 a0_2, .int .u64 a0_3, .int .i64 a0_4, .int .i64 a0_5]] w fun e w' => e = .returned (.bool r) ∧ Below w.heap.size w w' := by
  have hu34 := Try.underlying34
  have hup35 := Try.underlying35
  have HB := Aside0.mk (Below.refl w.heap.size w)
  have H : ((suppress_Wait.f k a0_0 a0_4 a0_5).bind fun bt176 => ((suppress_Wait.f k a0_1 a0_4 a0_5).bind fun bt178 => ((suppress_New.f).bind fun bt180 => ((suppress_New.f).bind fun bt185 => (if bt176.2 = 0 then (if bt178.2 = 0 then (terracelaw17_SuppressTwo.j0 k bt176.1 bt178.1 (decide (a0_4 > 5000)) a0_0 a0_1 a0_2 a0_3 a0_4 a0_5 bt180.1 bt180.2.1 bt180.2.2.1 bt180.2.2.2 bt185.1 bt185.2.1 bt185.2.2.1 bt185.2.2.2) else (terracelaw17_SuppressTwo.j0 k bt176.1 bt178.1 true a0_0 a0_1 a0_2 a0_3 a0_4 a0_5 bt180.1 bt180.2.1 bt180.2.2.1 bt180.2.2.2 bt185.1 bt185.2.1 bt185.2.2.1 bt185.2.2.2)) else (terracelaw17_SuppressTwo.j0 k bt176.1 bt178.1 true a0_0 a0_1 a0_2 a0_3 a0_4 a0_5 bt180.1 bt180.2.1 bt180.2.2.1 bt180.2.2.2 bt185.1 bt185.2.1 bt185.2.2.1 bt185.2.2.2)))))) = some r := h
  clear h
  replace H := Option.bind_eq_some_iff.mp H
  obtain ⟨⟨t176, t177⟩, A20, H⟩ := H
  replace H : ((suppress_Wait.f k a0_1 a0_4 a0_5).bind fun bt178 => ((suppress_New.f).bind fun bt180 => ((suppress_New.f).bind fun bt185 => (if t177 = 0 then (if bt178.2 = 0 then (terracelaw17_SuppressTwo.j0 k t176 bt178.1 (decide (a0_4 > 5000)) a0_0 a0_1 a0_2 a0_3 a0_4 a0_5 bt180.1 bt180.2.1 bt180.2.2.1 bt180.2.2.2 bt185.1 bt185.2.1 bt185.2.2.1 bt185.2.2.2) else (terracelaw17_SuppressTwo.j0 k t176 bt178.1 true a0_0 a0_1 a0_2 a0_3 a0_4 a0_5 bt180.1 bt180.2.1 bt180.2.2.1 bt180.2.2.2 bt185.1 bt185.2.1 bt185.2.2.1 bt185.2.2.2)) else (terracelaw17_SuppressTwo.j0 k t176 bt178.1 true a0_0 a0_1 a0_2 a0_3 a0_4 a0_5 bt180.1 bt180.2.1 bt180.2.2.1 bt180.2.2.2 bt185.1 bt185.2.1 bt185.2.2.1 bt185.2.2.2))))) = some r := H
  have A2 := Aside0.mk A20
  clear A20
  replace H := Option.bind_eq_some_iff.mp H
  obtain ⟨⟨t178, t179⟩, A30, H⟩ := H
  replace H : ((suppress_New.f).bind fun bt180 => ((suppress_New.f).bind fun bt185 => (if t177 = 0 then (if t179 = 0 then (terracelaw17_SuppressTwo.j0 k t176 t178 (decide (a0_4 > 5000)) a0_0 a0_1 a0_2 a0_3 a0_4 a0_5 bt180.1 bt180.2.1 bt180.2.2.1 bt180.2.2.2 bt185.1 bt185.2.1 bt185.2.2.1 bt185.2.2.2) else (terracelaw17_SuppressTwo.j0 k t176 t178 true a0_0 a0_1 a0_2 a0_3 a0_4 a0_5 bt180.1 bt180.2.1 bt180.2.2.1 bt180.2.2.2 bt185.1 bt185.2.1 bt185.2.2.1 bt185.2.2.2)) else (terracelaw17_SuppressTwo.j0 k t176 t178 true a0_0 a0_1 a0_2 a0_3 a0_4 a0_5 bt180.1 bt180.2.1 bt180.2.2.1 bt180.2.2.2 bt185.1 bt185.2.1 bt185.2.2.1 bt185.2.2.2)))) = some r := H
  have A3 := Aside0.mk A30
  clear A30
  replace H := Option.bind_eq_some_iff.mp H
  obtain ⟨⟨t180, t181, t182, t183⟩, A40, H⟩ := H
  replace H : ((suppress_New.f).bind fun bt185 => (if t177 = 0 then (if t179 = 0 then (terracelaw17_SuppressTwo.j0 k t176 t178 (decide (a0_4 > 5000)) a0_0 a0_1 a0_2 a0_3 a0_4 a0_5 t180 t181 t182 t183 bt185.1 bt185.2.1 bt185.2.2.1 bt185.2.2.2) else (terracelaw17_SuppressTwo.j0 k t176 t178 true a0_0 a0_1 a0_2 a0_3 a0_4 a0_5 t180 t181 t182 t183 bt185.1 bt185.2.1 bt185.2.2.1 bt185.2.2.2)) else (terracelaw17_SuppressTwo.j0 k t176 t178 true a0_0 a0_1 a0_2 a0_3 a0_4 a0_5 t180 t181 t182 t183 bt185.1 bt185.2.1 bt185.2.2.1 bt185.2.2.2))) = some r := H
  have A4 := Aside0.mk A40
  clear A40
  replace H := Option.bind_eq_some_iff.mp H
  obtain ⟨⟨t185, t186, t187, t188⟩, A50, H⟩ := H
  replace H : (if t177 = 0 then (if t179 = 0 then (terracelaw17_SuppressTwo.j0 k t176 t178 (decide (a0_4 > 5000)) a0_0 a0_1 a0_2 a0_3 a0_4 a0_5 t180 t181 t182 t183 t185 t186 t187 t188) else (terracelaw17_SuppressTwo.j0 k t176 t178 true a0_0 a0_1 a0_2 a0_3 a0_4 a0_5 t180 t181 t182 t183 t185 t186 t187 t188)) else (terracelaw17_SuppressTwo.j0 k t176 t178 true a0_0 a0_1 a0_2 a0_3 a0_4 a0_5 t180 t181 t182 t183 t185 t186 t187 t188)) = some r := H
  have A5 := Aside0.mk A50
  clear A50
  have HC6 := Aside0.mk H
  clear H
  go_enter Try.func5, Try.ntmps5
  go_upto_region 6 with (first | ((with_reducible refine gate_dst (N := 1) rfl ?_); refine box_event ?hg (N := 1) ?hd (cs := #[.int .u64 a0_0, .int .u64 a0_1, .int .u64 a0_2, .int .u64 a0_3, .int .i64 a0_4, .int .i64 a0_5]) (t := 34) ?hr ?_; (case hd => rfl); (case hg => rfl); (case hr => first | (go_simp; done) | (go_simp; rfl)); intro gb175 hg w7 hbox hb; have n0_ := Aside0.mk (below_step (by repeat (first | (with_reducible first | exact HB.out | apply below_alloc | apply pw_below_drewN | apply below_drew1) | exact HB.out)) hb); have n1_ := Aside0.mk (hbox); have n2_ := Aside0.mk ((by rw [hg]; exact (below_size (by repeat (first | (with_reducible first | exact HB.out | apply below_alloc | apply pw_below_drewN | apply below_drew1) | exact HB.out))) : w.heap.size ≤ gb175)); have n3_ := Aside0.mk ((by rw [hg]; exact (below_size (by repeat (first | (with_reducible first | exact HB.out | apply below_alloc | apply pw_below_drewN | apply below_drew1) | exact HB.out))) : w.heap.size ≤ gb175)); clear HB; have HB := n0_; have BK175 := n1_; have GW175 := n2_; have GE175 := n3_; clear n0_ n1_ n2_ n3_; clear hb hbox hg; have hcz8_0 : w7.cell? ⟨gb175, 0, none⟩ = some (.int .u64 a0_0) := (blk_cell BK175.out 0).trans rfl; have hcz8_1 : w7.cell? ⟨gb175, 1, none⟩ = some (.int .u64 a0_1) := (blk_cell BK175.out 1).trans rfl; have hcz8_2 : w7.cell? ⟨gb175, 2, none⟩ = some (.int .u64 a0_2) := (blk_cell BK175.out 2).trans rfl; have hcz8_3 : w7.cell? ⟨gb175, 3, none⟩ = some (.int .u64 a0_3) := (blk_cell BK175.out 3).trans rfl; have hcz8_4 : w7.cell? ⟨gb175, 4, none⟩ = some (.int .i64 a0_4) := (blk_cell BK175.out 4).trans rfl; have hcz8_5 : w7.cell? ⟨gb175, 5, none⟩ = some (.int .i64 a0_5) := (blk_cell BK175.out 5).trans rfl; have hfz8_0 := blk_frozen BK175.out 0; have hfz8_1 := blk_frozen BK175.out 1; have hfz8_2 := blk_frozen BK175.out 2; have hfz8_3 := blk_frozen BK175.out 3; have hfz8_4 := blk_frozen BK175.out 4; have hfz8_5 := blk_frozen BK175.out 5) | ((with_reducible refine gate_callee (f := 8) rfl ?_); refine goesL_ (some 21) rfl rfl Try.func8 (by kernel_rfl) rfl #[.int .u64 a0_0, .int .i64 a0_4, .int .i64 a0_5] rfl (by (try simp only [List.map_toArray, List.map_cons, List.map_nil]); first | done | rfl | (simp only [List.length_drop, List.length_take]; rfl)) ?_; (with_reducible refine (suppress_Wait.calls k a0_0 a0_4 a0_5 t176 t177 _ A2.out).mono ?_); rintro e w9 ⟨rfl, hb⟩; refine ⟨_, rfl, ?_⟩; have n0_ := Aside0.mk (blk_below (g := gb175) (o := .cells #[.int .u64 a0_0, .int .u64 a0_1, .int .u64 a0_2, .int .u64 a0_3, .int .i64 a0_4, .int .i64 a0_5] 34 (0, 0)) (by (with_reducible repeat (first | refine blk_drewN ?_ _ | refine blk_drew ?_ | refine blk_alloc ?_ _)); exact BK175.out) hb); have n1_ := Aside0.mk (below_step (by repeat (first | (with_reducible first | exact HB.out | apply below_alloc | apply pw_below_drewN | apply below_drew1 | refine below_set ?_ GE175.out) | exact HB.out)) hb); clear BK175; clear HB; have BK175 := n0_; have HB := n1_; clear n0_ n1_; (try clear hb); (try clear hb2); (try clear hk); (try clear hi); have hcz10_0 : w9.cell? ⟨gb175, 0, none⟩ = some (.int .u64 a0_0) := (blk_cell BK175.out 0).trans rfl; have hcz10_1 : w9.cell? ⟨gb175, 1, none⟩ = some (.int .u64 a0_1) := (blk_cell BK175.out 1).trans rfl; have hcz10_2 : w9.cell? ⟨gb175, 2, none⟩ = some (.int .u64 a0_2) := (blk_cell BK175.out 2).trans rfl; have hcz10_3 : w9.cell? ⟨gb175, 3, none⟩ = some (.int .u64 a0_3) := (blk_cell BK175.out 3).trans rfl; have hcz10_4 : w9.cell? ⟨gb175, 4, none⟩ = some (.int .i64 a0_4) := (blk_cell BK175.out 4).trans rfl; have hcz10_5 : w9.cell? ⟨gb175, 5, none⟩ = some (.int .i64 a0_5) := (blk_cell BK175.out 5).trans rfl; have hfz10_0 := blk_frozen BK175.out 0; have hfz10_1 := blk_frozen BK175.out 1; have hfz10_2 := blk_frozen BK175.out 2; have hfz10_3 := blk_frozen BK175.out 3; have hfz10_4 := blk_frozen BK175.out 4; have hfz10_5 := blk_frozen BK175.out 5) | ((with_reducible refine gate_callee (f := 8) rfl ?_); refine goesL_ (some 31) rfl rfl Try.func8 (by kernel_rfl) rfl #[.int .u64 a0_1, .int .i64 a0_4, .int .i64 a0_5] rfl (by (try simp only [List.map_toArray, List.map_cons, List.map_nil]); first | done | rfl | (simp only [List.length_drop, List.length_take]; rfl)) ?_; (with_reducible refine (suppress_Wait.calls k a0_1 a0_4 a0_5 t178 t179 _ A3.out).mono ?_); rintro e w11 ⟨rfl, hb⟩; refine ⟨_, rfl, ?_⟩; have n0_ := Aside0.mk (blk_below (g := gb175) (o := .cells #[.int .u64 a0_0, .int .u64 a0_1, .int .u64 a0_2, .int .u64 a0_3, .int .i64 a0_4, .int .i64 a0_5] 34 (0, 0)) (by (with_reducible repeat (first | refine blk_drewN ?_ _ | refine blk_drew ?_ | refine blk_alloc ?_ _)); exact BK175.out) hb); have n1_ := Aside0.mk (below_step (by repeat (first | (with_reducible first | exact HB.out | apply below_alloc | apply pw_below_drewN | apply below_drew1 | refine below_set ?_ GE175.out) | exact HB.out)) hb); clear BK175; clear HB; have BK175 := n0_; have HB := n1_; clear n0_ n1_; (try clear hb); (try clear hb2); (try clear hk); (try clear hi)) | ((with_reducible refine gate_callee (f := 11) rfl ?_); refine goesL_ (some 34) rfl rfl Try.func11 (by kernel_rfl) rfl #[] rfl (by (try simp only [List.map_toArray, List.map_cons, List.map_nil]); first | done | rfl | (simp only [List.length_drop, List.length_take]; rfl)) ?_; (with_reducible refine (suppress_New.calls  t180 t181 t182 t183 _ A4.out).mono ?_); rintro e w12 ⟨g184, rfl, hi0, hb2⟩; refine ⟨_, rfl, ?_⟩; have hi : IsS61 w w12 g184 t180 t181 t182 t183 := ⟨hi0.1, Nat.le_trans (below_size (by repeat (first | (with_reducible first | exact HB.out | apply below_alloc | apply pw_below_drewN | apply below_drew1 | refine below_set ?_ GE175.out) | exact HB.out))) hi0.2⟩; have hb := below_step (by repeat (first | (with_reducible first | exact HB.out | apply below_alloc | apply pw_below_drewN | apply below_drew1 | refine below_set ?_ GE175.out) | exact HB.out)) hb2; have n0_ := Aside0.mk (blk_below (g := gb175) (o := .cells #[.int .u64 a0_0, .int .u64 a0_1, .int .u64 a0_2, .int .u64 a0_3, .int .i64 a0_4, .int .i64 a0_5] 34 (0, 0)) (by (with_reducible repeat (first | refine blk_drewN ?_ _ | refine blk_drew ?_ | refine blk_alloc ?_ _)); exact BK175.out) hb2); have n1_ := Aside0.mk (hb); have n2_ := Aside0.mk (hi); have n3_ := Aside0.mk ((Nat.ne_of_gt (Nat.lt_of_lt_of_le (blk_lt (g := gb175) (o := .cells #[.int .u64 a0_0, .int .u64 a0_1, .int .u64 a0_2, .int .u64 a0_3, .int .i64 a0_4, .int .i64 a0_5] 34 (0, 0)) (by (with_reducible repeat (first | refine blk_drewN ?_ _ | refine blk_drew ?_ | refine blk_alloc ?_ _)); exact BK175.out)) hi0.2) : g184 ≠ gb175)); have n4_ := Aside0.mk ((Nat.ne_of_lt (Nat.lt_of_lt_of_le (blk_lt (g := gb175) (o := .cells #[.int .u64 a0_0, .int .u64 a0_1, .int .u64 a0_2, .int .u64 a0_3, .int .i64 a0_4, .int .i64 a0_5] 34 (0, 0)) (by (with_reducible repeat (first | refine blk_drewN ?_ _ | refine blk_drew ?_ | refine blk_alloc ?_ _)); exact BK175.out)) hi0.2) : gb175 ≠ g184)); clear BK175; clear HB; have BK175 := n0_; have HB := n1_; have HI184 := n2_; have NB184_175 := n3_; have NB175_184 := n4_; clear n0_ n1_ n2_ n3_ n4_; (try clear hb); (try clear hb2); (try clear hk); (try clear hi)) | ((with_reducible refine gate_callee (f := 11) rfl ?_); refine goesL_ (some 35) rfl rfl Try.func11 (by kernel_rfl) rfl #[] rfl (by (try simp only [List.map_toArray, List.map_cons, List.map_nil]); first | done | rfl | (simp only [List.length_drop, List.length_take]; rfl)) ?_; (with_reducible refine (suppress_New.calls  t185 t186 t187 t188 _ A5.out).mono ?_); rintro e w13 ⟨g189, rfl, hi0, hb2⟩; refine ⟨_, rfl, ?_⟩; have hi : IsS61 w w13 g189 t185 t186 t187 t188 := ⟨hi0.1, Nat.le_trans (below_size (by repeat (first | (with_reducible first | exact HB.out | apply below_alloc | apply pw_below_drewN | apply below_drew1 | refine below_set ?_ (IsS61.ge HI184.out) | refine below_set ?_ GE175.out) | exact HB.out))) hi0.2⟩; have hb := below_step (by repeat (first | (with_reducible first | exact HB.out | apply below_alloc | apply pw_below_drewN | apply below_drew1 | refine below_set ?_ (IsS61.ge HI184.out) | refine below_set ?_ GE175.out) | exact HB.out)) hb2; have n0_ := Aside0.mk (blk_below (g := gb175) (o := .cells #[.int .u64 a0_0, .int .u64 a0_1, .int .u64 a0_2, .int .u64 a0_3, .int .i64 a0_4, .int .i64 a0_5] 34 (0, 0)) (by (with_reducible repeat (first | refine blk_drewN ?_ _ | refine blk_drew ?_ | refine blk_alloc ?_ _)); exact BK175.out) hb2); have n1_ := Aside0.mk (IsS61.below (by repeat (first | (with_reducible first | exact HI184.out | apply IsS61.alloc | apply IsS61.drewN | apply IsS61.drew | apply IsS61.set_0 | apply IsS61.set_1 | apply IsS61.set_2 | apply IsS61.set_3 | refine IsS61.far ?_ NB184_175.out _) | exact HI184.out)) hb2); have n2_ := Aside0.mk (hb); have n3_ := Aside0.mk (hi); have n4_ := Aside0.mk ((Nat.ne_of_gt (Nat.lt_of_lt_of_le (IsS61.lt (show IsS61 w _ g184 t180 t181 t182 t183 from by repeat (first | (with_reducible first | exact HI184.out | apply IsS61.alloc | apply IsS61.drewN | apply IsS61.drew | apply IsS61.set_0 | apply IsS61.set_1 | apply IsS61.set_2 | apply IsS61.set_3 | refine IsS61.far ?_ NB184_175.out _) | exact HI184.out))) hi0.2) : g189 ≠ g184)); have n5_ := Aside0.mk ((Nat.ne_of_lt (Nat.lt_of_lt_of_le (IsS61.lt (show IsS61 w _ g184 t180 t181 t182 t183 from by repeat (first | (with_reducible first | exact HI184.out | apply IsS61.alloc | apply IsS61.drewN | apply IsS61.drew | apply IsS61.set_0 | apply IsS61.set_1 | apply IsS61.set_2 | apply IsS61.set_3 | refine IsS61.far ?_ NB184_175.out _) | exact HI184.out))) hi0.2) : g184 ≠ g189)); have n6_ := Aside0.mk ((Nat.ne_of_gt (Nat.lt_of_lt_of_le (blk_lt (g := gb175) (o := .cells #[.int .u64 a0_0, .int .u64 a0_1, .int .u64 a0_2, .int .u64 a0_3, .int .i64 a0_4, .int .i64 a0_5] 34 (0, 0)) (by (with_reducible repeat (first | refine blk_drewN ?_ _ | refine blk_drew ?_ | refine blk_alloc ?_ _)); exact BK175.out)) hi0.2) : g189 ≠ gb175)); have n7_ := Aside0.mk ((Nat.ne_of_lt (Nat.lt_of_lt_of_le (blk_lt (g := gb175) (o := .cells #[.int .u64 a0_0, .int .u64 a0_1, .int .u64 a0_2, .int .u64 a0_3, .int .i64 a0_4, .int .i64 a0_5] 34 (0, 0)) (by (with_reducible repeat (first | refine blk_drewN ?_ _ | refine blk_drew ?_ | refine blk_alloc ?_ _)); exact BK175.out)) hi0.2) : gb175 ≠ g189)); clear BK175; clear HI184; clear HB; have BK175 := n0_; have HI184 := n1_; have HB := n2_; have HI189 := n3_; have NB189_184 := n4_; have NB184_189 := n5_; have NB189_175 := n6_; have NB175_189 := n7_; clear n0_ n1_ n2_ n3_ n4_ n5_ n6_ n7_; (try clear hb); (try clear hb2); (try clear hk); (try clear hi)))
  (try simp only [Act.put, List.setIfInBounds_toArray, List.set_cons_zero, List.set_cons_succ])
  go_cut [52] (fun v52 wc => ∃ (kq : Nat) (x52_5 : Bool), v52 = .bool x52_5 ∧ Aside0 (terracelaw17_SuppressTwo.j0 kq t176 t178 x52_5 a0_0 a0_1 a0_2 a0_3 a0_4 a0_5 t180 t181 t182 t183 t185 t186 t187 t188 = some r) ∧ Aside0 (kq ≤ k) ∧ Aside0 (wc.heap[gb175]? = some (.cells #[.int .u64 a0_0, .int .u64 a0_1, .int .u64 a0_2, .int .u64 a0_3, .int .i64 a0_4, .int .i64 a0_5] 34 (0, 0))) ∧ Aside0 (IsS61 w wc g184 t180 t181 t182 t183) ∧ Aside0 (IsS61 w wc g189 t185 t186 t187 t188) ∧ Aside0 (Below w.heap.size w wc))
  case first =>
    have H := HC6.out
    clear HC6
    by_cases c14 : t177 = 0
    · rw [if_pos c14] at H
      have c14b0 : (t177 == 0) = true := beq_iff_eq.mpr c14
      have c14b1 : (t177 != 0) = false := bne_eq_false_iff_eq.mpr c14
      clear c14
      (first | rw [c14b0] | (simp only [i64_w, i32_w]; rw [c14b0]) | skip)
      by_cases c15 : t179 = 0
      · rw [if_pos c15] at H
        have c15b0 : (t179 == 0) = true := beq_iff_eq.mpr c15
        have c15b1 : (t179 != 0) = false := bne_eq_false_iff_eq.mpr c15
        clear c15
        have H' := Aside0.mk H
        clear H
        have hnb16 := NB175_184.out
        have hnc16 := NB184_175.out
        have hnb17 := NB175_189.out
        have hnc17 := NB189_175.out
        have hcz18_0 : w13.cell? ⟨gb175, 0, none⟩ = some (.int .u64 a0_0) := (blk_cell BK175.out 0).trans rfl
        have hcz18_1 : w13.cell? ⟨gb175, 1, none⟩ = some (.int .u64 a0_1) := (blk_cell BK175.out 1).trans rfl
        have hcz18_2 : w13.cell? ⟨gb175, 2, none⟩ = some (.int .u64 a0_2) := (blk_cell BK175.out 2).trans rfl
        have hcz18_3 : w13.cell? ⟨gb175, 3, none⟩ = some (.int .u64 a0_3) := (blk_cell BK175.out 3).trans rfl
        have hcz18_4 : w13.cell? ⟨gb175, 4, none⟩ = some (.int .i64 a0_4) := (blk_cell BK175.out 4).trans rfl
        have hcz18_5 : w13.cell? ⟨gb175, 5, none⟩ = some (.int .i64 a0_5) := (blk_cell BK175.out 5).trans rfl
        have hfz18_0 := blk_frozen BK175.out 0
        have hfz18_1 := blk_frozen BK175.out 1
        have hfz18_2 := blk_frozen BK175.out 2
        have hfz18_3 := blk_frozen BK175.out 3
        have hfz18_4 := blk_frozen BK175.out 4
        have hfz18_5 := blk_frozen BK175.out 5
        go_wp2
        go_meet
        case rel => exact ⟨_, (decide (a0_4 > 5000)), (by first | rfl | (simp; done) | (simp [*]; done)), H', ⟨by first | omega | exact Nat.le_refl _⟩, ⟨by (with_reducible repeat (first | refine blk_drewN ?_ _ | refine blk_drew ?_ | refine blk_alloc ?_ _)); exact BK175.out⟩, ⟨by repeat (first | (with_reducible first | exact HI184.out | apply IsS61.alloc | apply IsS61.drewN | apply IsS61.drew | apply IsS61.set_0 | apply IsS61.set_1 | apply IsS61.set_2 | apply IsS61.set_3 | refine IsS61.far ?_ NB184_175.out _) | exact HI184.out)⟩, ⟨by repeat (first | (with_reducible first | exact HI189.out | apply IsS61.alloc | apply IsS61.drewN | apply IsS61.drew | apply IsS61.set_0 | apply IsS61.set_1 | apply IsS61.set_2 | apply IsS61.set_3 | refine IsS61.far ?_ NB189_175.out _) | exact HI189.out)⟩, ⟨by repeat (first | (with_reducible first | exact HB.out | apply below_alloc | apply pw_below_drewN | apply below_drew1 | refine below_set ?_ (IsS61.ge HI184.out) | refine below_set ?_ (IsS61.ge HI189.out) | refine below_set ?_ GE175.out) | exact HB.out)⟩⟩
      · rw [if_neg c15] at H
        have c15b0 : (t179 == 0) = false := beq_eq_false_iff_ne.mpr c15
        have c15b1 : (t179 != 0) = true := bne_iff_ne.mpr c15
        have H' := Aside0.mk H
        clear H
        go_wp2
        go_meet
        case rel => exact ⟨_, (true), (by first | rfl | (simp; done) | (simp [*]; done)), H', ⟨by first | omega | exact Nat.le_refl _⟩, ⟨by (with_reducible repeat (first | refine blk_drewN ?_ _ | refine blk_drew ?_ | refine blk_alloc ?_ _)); exact BK175.out⟩, ⟨by repeat (first | (with_reducible first | exact HI184.out | apply IsS61.alloc | apply IsS61.drewN | apply IsS61.drew | apply IsS61.set_0 | apply IsS61.set_1 | apply IsS61.set_2 | apply IsS61.set_3 | refine IsS61.far ?_ NB184_175.out _) | exact HI184.out)⟩, ⟨by repeat (first | (with_reducible first | exact HI189.out | apply IsS61.alloc | apply IsS61.drewN | apply IsS61.drew | apply IsS61.set_0 | apply IsS61.set_1 | apply IsS61.set_2 | apply IsS61.set_3 | refine IsS61.far ?_ NB189_175.out _) | exact HI189.out)⟩, ⟨by repeat (first | (with_reducible first | exact HB.out | apply below_alloc | apply pw_below_drewN | apply below_drew1 | refine below_set ?_ (IsS61.ge HI184.out) | refine below_set ?_ (IsS61.ge HI189.out) | refine below_set ?_ GE175.out) | exact HB.out)⟩⟩
    · rw [if_neg c14] at H
      have c14b0 : (t177 == 0) = false := beq_eq_false_iff_ne.mpr c14
      have c14b1 : (t177 != 0) = true := bne_iff_ne.mpr c14
      (first | rw [c14b0] | (simp only [i64_w, i32_w]; rw [c14b0]) | skip)
      have H' := Aside0.mk H
      clear H
      go_wp2
      go_meet
      case rel => exact ⟨_, (true), (by first | rfl | (simp; done) | (simp [*]; done)), H', ⟨by first | omega | exact Nat.le_refl _⟩, ⟨by (with_reducible repeat (first | refine blk_drewN ?_ _ | refine blk_drew ?_ | refine blk_alloc ?_ _)); exact BK175.out⟩, ⟨by repeat (first | (with_reducible first | exact HI184.out | apply IsS61.alloc | apply IsS61.drewN | apply IsS61.drew | apply IsS61.set_0 | apply IsS61.set_1 | apply IsS61.set_2 | apply IsS61.set_3 | refine IsS61.far ?_ NB184_175.out _) | exact HI184.out)⟩, ⟨by repeat (first | (with_reducible first | exact HI189.out | apply IsS61.alloc | apply IsS61.drewN | apply IsS61.drew | apply IsS61.set_0 | apply IsS61.set_1 | apply IsS61.set_2 | apply IsS61.set_3 | refine IsS61.far ?_ NB189_175.out _) | exact HI189.out)⟩, ⟨by repeat (first | (with_reducible first | exact HB.out | apply below_alloc | apply pw_below_drewN | apply below_drew1 | refine below_set ?_ (IsS61.ge HI184.out) | refine below_set ?_ (IsS61.ge HI189.out) | refine below_set ?_ GE175.out) | exact HB.out)⟩⟩
  case rest =>
    clear HC6
    try clear c1
    try clear p2
    try clear c5
    try clear c8
    try clear c11
    try clear c14
    try clear c14b0
    try clear c14b1
    try clear c15
    try clear c15b0
    try clear c15b1
    try clear c16
    try clear c17
    try clear hcz10_0
    try clear hcz10_1
    try clear hcz10_2
    try clear hcz10_3
    try clear hcz10_4
    try clear hcz10_5
    try clear hcz18_0
    try clear hcz18_1
    try clear hcz18_2
    try clear hcz18_3
    try clear hcz18_4
    try clear hcz18_5
    try clear hcz8_0
    try clear hcz8_1
    try clear hcz8_2
    try clear hcz8_3
    try clear hcz8_4
    try clear hcz8_5
    try clear hfz10_0
    try clear hfz10_1
    try clear hfz10_2
    try clear hfz10_3
    try clear hfz10_4
    try clear hfz10_5
    try clear hfz18_0
    try clear hfz18_1
    try clear hfz18_2
    try clear hfz18_3
    try clear hfz18_4
    try clear hfz18_5
    try clear hfz8_0
    try clear hfz8_1
    try clear hfz8_2
    try clear hfz8_3
    try clear hfz8_4
    try clear hfz8_5
    obtain ⟨kq, x52_5, rfl, HA, HJ5, BK175, HI184, HI189, HB⟩ := hcut
    cases kq with
    | zero => exact absurd HA.out (by simp [terracelaw17_SuppressTwo.j0])
    | succ kj5 =>
      have H := HA.out
      clear HA
      simp only [terracelaw17_SuppressTwo.j0] at H
      by_cases c19 : x52_5 = true
      · subst c19
        have H1 : ((terracelaw17_awake.f kj5).bind fun t190 => (some t190)) = some r := by rw [if_pos rfl] at H; exact H
        clear H
        have H := H1
        clear H1
        replace H := Option.bind_eq_some_iff.mp H
        obtain ⟨t190, A200, H⟩ := H
        replace H : (some t190) = some r := H
        have A20 := Aside0.mk A200
        clear A200
        obtain rfl := Option.some.inj H
        go_wp2_with (first | ((with_reducible refine gate_callee (f := 9) rfl ?_); refine goesL_ (some 53) rfl rfl Try.func9 (by kernel_rfl) rfl #[] rfl (by (try simp only [List.map_toArray, List.map_cons, List.map_nil]); first | done | rfl | (simp only [List.length_drop, List.length_take]; rfl)) ?_; (with_reducible refine (terracelaw17_awake.calls kj5  t190 _ A20.out).mono ?_); rintro e w21 ⟨rfl, hb⟩; refine ⟨_, rfl, ?_⟩; have n0_ := Aside0.mk (blk_below (g := gb175) (o := .cells #[.int .u64 a0_0, .int .u64 a0_1, .int .u64 a0_2, .int .u64 a0_3, .int .i64 a0_4, .int .i64 a0_5] 34 (0, 0)) (by (with_reducible repeat (first | refine blk_drewN ?_ _ | refine blk_drew ?_ | refine blk_alloc ?_ _)); exact BK175.out) hb); have n1_ := Aside0.mk (IsS61.below (by repeat (first | (with_reducible first | exact HI184.out | apply IsS61.alloc | apply IsS61.drewN | apply IsS61.drew | apply IsS61.set_0 | apply IsS61.set_1 | apply IsS61.set_2 | apply IsS61.set_3 | refine IsS61.far ?_ NB184_175.out _) | exact HI184.out)) hb); have n2_ := Aside0.mk (IsS61.below (by repeat (first | (with_reducible first | exact HI189.out | apply IsS61.alloc | apply IsS61.drewN | apply IsS61.drew | apply IsS61.set_0 | apply IsS61.set_1 | apply IsS61.set_2 | apply IsS61.set_3 | refine IsS61.far ?_ NB189_175.out _) | exact HI189.out)) hb); have n3_ := Aside0.mk (below_step (by repeat (first | (with_reducible first | exact HB.out | apply below_alloc | apply pw_below_drewN | apply below_drew1 | refine below_set ?_ (IsS61.ge HI184.out) | refine below_set ?_ (IsS61.ge HI189.out) | refine below_set ?_ GE175.out) | exact HB.out)) hb); clear BK175; clear HI184; clear HI189; clear HB; have BK175 := n0_; have HI184 := n1_; have HI189 := n2_; have HB := n3_; clear n0_ n1_ n2_ n3_; (try clear hb); (try clear hb2); (try clear hk); (try clear hi)))
        go_ret
        exact ⟨by first | rfl | (simp [errW_none, errW_some] <;> rfl) | (simp [*, errW_none, errW_some] <;> rfl), by repeat (first | (with_reducible first | exact HB.out | apply below_alloc | apply pw_below_drewN | apply below_drew1 | refine below_set ?_ (IsS61.ge HI184.out) | refine below_set ?_ (IsS61.ge HI189.out) | refine below_set ?_ GE175.out) | exact HB.out)⟩
      · replace c19 := Bool.eq_false_iff.mpr c19
        subst c19
        have H1 : ((suppress_Round_Start.f kj5 t180 t181 t182 t183 1 0 t176 a0_2).bind fun bt191 => (if bt191.1 = 0 then ((suppress_Round_Start.f kj5 t185 t186 t187 t188 1 0 t178 a0_3).bind fun bt196 => (terracelaw17_SuppressTwo.j1 kj5 (bt196.1 != 0) a0_0 a0_1 a0_2 a0_3 a0_4 a0_5 bt191.2.1 bt191.2.2.1 bt191.2.2.2.1 bt191.2.2.2.2 bt196.2.1 bt196.2.2.1 bt196.2.2.2.1 bt196.2.2.2.2)) else (terracelaw17_SuppressTwo.j1 kj5 true a0_0 a0_1 a0_2 a0_3 a0_4 a0_5 bt191.2.1 bt191.2.2.1 bt191.2.2.2.1 bt191.2.2.2.2 t185 t186 t187 t188))) = some r := by rw [if_neg (show ¬ (false = true) by decide)] at H; exact H
        clear H
        have H := H1
        clear H1
        have HC22 := Aside0.mk H
        clear H
        go_upto_region 8 with (fail)
        go_cut [67] (fun v67 wc => ∃ (kq : Nat) (x67_21 : Bool) (x185000_21 : Int) (x185001_21 : Int) (x185002_21 : Int) (x185003_21 : Bool) (x190000_21 : Int) (x190001_21 : Int) (x190002_21 : Int) (x190003_21 : Bool), v67 = .bool x67_21 ∧ Aside0 (terracelaw17_SuppressTwo.j1 kq x67_21 a0_0 a0_1 a0_2 a0_3 a0_4 a0_5 x185000_21 x185001_21 x185002_21 x185003_21 x190000_21 x190001_21 x190002_21 x190003_21 = some r) ∧ Aside0 (kq ≤ kj5) ∧ Aside0 (wc.heap[gb175]? = some (.cells #[.int .u64 a0_0, .int .u64 a0_1, .int .u64 a0_2, .int .u64 a0_3, .int .i64 a0_4, .int .i64 a0_5] 34 (0, 0))) ∧ Aside0 (IsS61 w wc g184 x185000_21 x185001_21 x185002_21 x185003_21) ∧ Aside0 (IsS61 w wc g189 x190000_21 x190001_21 x190002_21 x190003_21) ∧ Aside0 (Below w.heap.size w wc))
        case first =>
          have H := HC22.out
          clear HC22
          replace H := Option.bind_eq_some_iff.mp H
          obtain ⟨⟨t191, t192, t193, t194, t195⟩, A230, H⟩ := H
          replace H : (if t191 = 0 then ((suppress_Round_Start.f kj5 t185 t186 t187 t188 1 0 t178 a0_3).bind fun bt196 => (terracelaw17_SuppressTwo.j1 kj5 (bt196.1 != 0) a0_0 a0_1 a0_2 a0_3 a0_4 a0_5 t192 t193 t194 t195 bt196.2.1 bt196.2.2.1 bt196.2.2.2.1 bt196.2.2.2.2)) else (terracelaw17_SuppressTwo.j1 kj5 true a0_0 a0_1 a0_2 a0_3 a0_4 a0_5 t192 t193 t194 t195 t185 t186 t187 t188)) = some r := H
          have A23 := Aside0.mk A230
          clear A230
          by_cases c24 : t191 = 0
          · rw [if_pos c24] at H
            have c24b0 : (t191 == 0) = true := beq_iff_eq.mpr c24
            have c24b1 : (t191 != 0) = false := bne_eq_false_iff_eq.mpr c24
            clear c24
            (first | rw [c24b0] | (simp only [i64_w, i32_w]; rw [c24b0]) | skip)
            replace H := Option.bind_eq_some_iff.mp H
            obtain ⟨⟨t196, t197, t198, t199, t200⟩, A250, H⟩ := H
            replace H : (terracelaw17_SuppressTwo.j1 kj5 (t196 != 0) a0_0 a0_1 a0_2 a0_3 a0_4 a0_5 t192 t193 t194 t195 t197 t198 t199 t200) = some r := H
            have A25 := Aside0.mk A250
            clear A250
            have H' := Aside0.mk H
            clear H
            have hnb26 := NB175_184.out
            have hnc26 := NB184_175.out
            have hnb27 := NB175_189.out
            have hnc27 := NB189_175.out
            have hcz28_0 : wc.cell? ⟨gb175, 0, none⟩ = some (.int .u64 a0_0) := (blk_cell BK175.out 0).trans rfl
            have hcz28_1 : wc.cell? ⟨gb175, 1, none⟩ = some (.int .u64 a0_1) := (blk_cell BK175.out 1).trans rfl
            have hcz28_2 : wc.cell? ⟨gb175, 2, none⟩ = some (.int .u64 a0_2) := (blk_cell BK175.out 2).trans rfl
            have hcz28_3 : wc.cell? ⟨gb175, 3, none⟩ = some (.int .u64 a0_3) := (blk_cell BK175.out 3).trans rfl
            have hcz28_4 : wc.cell? ⟨gb175, 4, none⟩ = some (.int .i64 a0_4) := (blk_cell BK175.out 4).trans rfl
            have hcz28_5 : wc.cell? ⟨gb175, 5, none⟩ = some (.int .i64 a0_5) := (blk_cell BK175.out 5).trans rfl
            have hfz28_0 := blk_frozen BK175.out 0
            have hfz28_1 := blk_frozen BK175.out 1
            have hfz28_2 := blk_frozen BK175.out 2
            have hfz28_3 := blk_frozen BK175.out 3
            have hfz28_4 := blk_frozen BK175.out 4
            have hfz28_5 := blk_frozen BK175.out 5
            go_wp2_with (first | ((with_reducible refine gate_callee (f := 12) rfl ?_); refine goesL_ (some 58) rfl rfl Try.func12 (by kernel_rfl) rfl #[.pointer (some ⟨g184, 0, none⟩), .int .i64 1, .int .i64 0, .int .i64 t176, .int .u64 a0_2] rfl (by (try simp only [List.map_toArray, List.map_cons, List.map_nil]); first | done | rfl | (simp only [List.length_drop, List.length_take]; rfl)) ?_; (with_reducible refine (suppress_Round_Start.calls kj5 g184 t180 t181 t182 t183 1 0 t176 a0_2 t191 t192 t193 t194 t195 w _ ?side1 ?side2 A23.out).mono ?_); (case side1 => repeat (first | (with_reducible first | exact HI184.out | apply IsS61.alloc | apply IsS61.drewN | apply IsS61.drew | apply IsS61.set_0 | apply IsS61.set_1 | apply IsS61.set_2 | apply IsS61.set_3 | refine IsS61.far ?_ NB184_175.out _) | exact HI184.out)); (case side2 => repeat (first | (with_reducible first | exact HB.out | apply below_alloc | apply pw_below_drewN | apply below_drew1 | refine below_set ?_ (IsS61.ge HI184.out) | refine below_set ?_ (IsS61.ge HI189.out) | refine below_set ?_ GE175.out) | exact HB.out)); rintro e w29 ⟨rfl, hi, hb, hk⟩; refine ⟨_, rfl, ?_⟩; have n0_ := Aside0.mk (KeepBut.blk hk (g' := gb175) (o := .cells #[.int .u64 a0_0, .int .u64 a0_1, .int .u64 a0_2, .int .u64 a0_3, .int .i64 a0_4, .int .i64 a0_5] 34 (0, 0)) (by (with_reducible repeat (first | refine blk_drewN ?_ _ | refine blk_drew ?_ | refine blk_alloc ?_ _)); exact BK175.out) NB175_184.out (by simp)); have n1_ := Aside0.mk ((show IsS61 w _ g189 t185 t186 t187 t188 from ⟨KeepBut.blk hk (show IsS61 w _ g189 t185 t186 t187 t188 from by repeat (first | (with_reducible first | exact HI189.out | apply IsS61.alloc | apply IsS61.drewN | apply IsS61.drew | apply IsS61.set_0 | apply IsS61.set_1 | apply IsS61.set_2 | apply IsS61.set_3 | refine IsS61.far ?_ NB189_175.out _) | exact HI189.out)).1 NB189_184.out (by simp), (show IsS61 w _ g189 t185 t186 t187 t188 from by repeat (first | (with_reducible first | exact HI189.out | apply IsS61.alloc | apply IsS61.drewN | apply IsS61.drew | apply IsS61.set_0 | apply IsS61.set_1 | apply IsS61.set_2 | apply IsS61.set_3 | refine IsS61.far ?_ NB189_175.out _) | exact HI189.out)).2⟩)); have n2_ := Aside0.mk (hb); have n3_ := Aside0.mk (hi); clear BK175; clear HI189; clear HB; clear HI184; have BK175 := n0_; have HI189 := n1_; have HB := n2_; have HI184 := n3_; clear n0_ n1_ n2_ n3_; (try clear hb); (try clear hb2); (try clear hk); (try clear hi); have hcz30_0 : w29.cell? ⟨gb175, 0, none⟩ = some (.int .u64 a0_0) := (blk_cell BK175.out 0).trans rfl; have hcz30_1 : w29.cell? ⟨gb175, 1, none⟩ = some (.int .u64 a0_1) := (blk_cell BK175.out 1).trans rfl; have hcz30_2 : w29.cell? ⟨gb175, 2, none⟩ = some (.int .u64 a0_2) := (blk_cell BK175.out 2).trans rfl; have hcz30_3 : w29.cell? ⟨gb175, 3, none⟩ = some (.int .u64 a0_3) := (blk_cell BK175.out 3).trans rfl; have hcz30_4 : w29.cell? ⟨gb175, 4, none⟩ = some (.int .i64 a0_4) := (blk_cell BK175.out 4).trans rfl; have hcz30_5 : w29.cell? ⟨gb175, 5, none⟩ = some (.int .i64 a0_5) := (blk_cell BK175.out 5).trans rfl; have hfz30_0 := blk_frozen BK175.out 0; have hfz30_1 := blk_frozen BK175.out 1; have hfz30_2 := blk_frozen BK175.out 2; have hfz30_3 := blk_frozen BK175.out 3; have hfz30_4 := blk_frozen BK175.out 4; have hfz30_5 := blk_frozen BK175.out 5) | (go_at_call 12; (with_reducible refine (suppress_Round_Start.calls kj5 g189 t185 t186 t187 t188 1 0 t178 a0_3 t196 t197 t198 t199 t200 w _ ?side1 ?side2 A25.out).mono ?_); (case side1 => repeat (first | (with_reducible first | exact HI189.out | apply IsS61.alloc | apply IsS61.drewN | apply IsS61.drew | apply IsS61.set_0 | apply IsS61.set_1 | apply IsS61.set_2 | apply IsS61.set_3 | refine IsS61.far ?_ NB189_175.out _) | exact HI189.out)); (case side2 => repeat (first | (with_reducible first | exact HB.out | apply below_alloc | apply pw_below_drewN | apply below_drew1 | refine below_set ?_ (IsS61.ge HI184.out) | refine below_set ?_ (IsS61.ge HI189.out) | refine below_set ?_ GE175.out) | exact HB.out)); rintro e w31 ⟨rfl, hi, hb, hk⟩; have n0_ := Aside0.mk (KeepBut.blk hk (g' := gb175) (o := .cells #[.int .u64 a0_0, .int .u64 a0_1, .int .u64 a0_2, .int .u64 a0_3, .int .i64 a0_4, .int .i64 a0_5] 34 (0, 0)) (by (with_reducible repeat (first | refine blk_drewN ?_ _ | refine blk_drew ?_ | refine blk_alloc ?_ _)); exact BK175.out) NB175_189.out (by simp)); have n1_ := Aside0.mk ((show IsS61 w _ g184 t192 t193 t194 t195 from ⟨KeepBut.blk hk (show IsS61 w _ g184 t192 t193 t194 t195 from by repeat (first | (with_reducible first | exact HI184.out | apply IsS61.alloc | apply IsS61.drewN | apply IsS61.drew | apply IsS61.set_0 | apply IsS61.set_1 | apply IsS61.set_2 | apply IsS61.set_3 | refine IsS61.far ?_ NB184_175.out _) | exact HI184.out)).1 NB184_189.out (by simp), (show IsS61 w _ g184 t192 t193 t194 t195 from by repeat (first | (with_reducible first | exact HI184.out | apply IsS61.alloc | apply IsS61.drewN | apply IsS61.drew | apply IsS61.set_0 | apply IsS61.set_1 | apply IsS61.set_2 | apply IsS61.set_3 | refine IsS61.far ?_ NB184_175.out _) | exact HI184.out)).2⟩)); have n2_ := Aside0.mk (hb); have n3_ := Aside0.mk (hi); clear BK175; clear HI184; clear HB; clear HI189; have BK175 := n0_; have HI184 := n1_; have HB := n2_; have HI189 := n3_; clear n0_ n1_ n2_ n3_; (try clear hb); (try clear hb2); (try clear hk); (try clear hi)))
            go_meet
            case rel => exact ⟨_, ((t196 != 0)), (t192), (t193), (t194), (t195), (t197), (t198), (t199), (t200), (by first | rfl | (simp; done) | (simp [*]; done)), H', ⟨by have := HJ5.out; first | omega | exact Nat.le_refl _⟩, ⟨by (with_reducible repeat (first | refine blk_drewN ?_ _ | refine blk_drew ?_ | refine blk_alloc ?_ _)); exact BK175.out⟩, ⟨by repeat (first | (with_reducible first | exact HI184.out | apply IsS61.alloc | apply IsS61.drewN | apply IsS61.drew | apply IsS61.set_0 | apply IsS61.set_1 | apply IsS61.set_2 | apply IsS61.set_3 | refine IsS61.far ?_ NB184_175.out _) | exact HI184.out)⟩, ⟨by repeat (first | (with_reducible first | exact HI189.out | apply IsS61.alloc | apply IsS61.drewN | apply IsS61.drew | apply IsS61.set_0 | apply IsS61.set_1 | apply IsS61.set_2 | apply IsS61.set_3 | refine IsS61.far ?_ NB189_175.out _) | exact HI189.out)⟩, ⟨by repeat (first | (with_reducible first | exact HB.out | apply below_alloc | apply pw_below_drewN | apply below_drew1 | refine below_set ?_ (IsS61.ge HI184.out) | refine below_set ?_ (IsS61.ge HI189.out) | refine below_set ?_ GE175.out) | exact HB.out)⟩⟩
          · rw [if_neg c24] at H
            have c24b0 : (t191 == 0) = false := beq_eq_false_iff_ne.mpr c24
            have c24b1 : (t191 != 0) = true := bne_iff_ne.mpr c24
            (first | rw [c24b0] | (simp only [i64_w, i32_w]; rw [c24b0]) | skip)
            have H' := Aside0.mk H
            clear H
            have hnb32 := NB175_184.out
            have hnc32 := NB184_175.out
            have hnb33 := NB175_189.out
            have hnc33 := NB189_175.out
            have hcz34_0 : wc.cell? ⟨gb175, 0, none⟩ = some (.int .u64 a0_0) := (blk_cell BK175.out 0).trans rfl
            have hcz34_1 : wc.cell? ⟨gb175, 1, none⟩ = some (.int .u64 a0_1) := (blk_cell BK175.out 1).trans rfl
            have hcz34_2 : wc.cell? ⟨gb175, 2, none⟩ = some (.int .u64 a0_2) := (blk_cell BK175.out 2).trans rfl
            have hcz34_3 : wc.cell? ⟨gb175, 3, none⟩ = some (.int .u64 a0_3) := (blk_cell BK175.out 3).trans rfl
            have hcz34_4 : wc.cell? ⟨gb175, 4, none⟩ = some (.int .i64 a0_4) := (blk_cell BK175.out 4).trans rfl
            have hcz34_5 : wc.cell? ⟨gb175, 5, none⟩ = some (.int .i64 a0_5) := (blk_cell BK175.out 5).trans rfl
            have hfz34_0 := blk_frozen BK175.out 0
            have hfz34_1 := blk_frozen BK175.out 1
            have hfz34_2 := blk_frozen BK175.out 2
            have hfz34_3 := blk_frozen BK175.out 3
            have hfz34_4 := blk_frozen BK175.out 4
            have hfz34_5 := blk_frozen BK175.out 5
            go_wp2_with (first | ((with_reducible refine gate_callee (f := 12) rfl ?_); refine goesL_ (some 58) rfl rfl Try.func12 (by kernel_rfl) rfl #[.pointer (some ⟨g184, 0, none⟩), .int .i64 1, .int .i64 0, .int .i64 t176, .int .u64 a0_2] rfl (by (try simp only [List.map_toArray, List.map_cons, List.map_nil]); first | done | rfl | (simp only [List.length_drop, List.length_take]; rfl)) ?_; (with_reducible refine (suppress_Round_Start.calls kj5 g184 t180 t181 t182 t183 1 0 t176 a0_2 t191 t192 t193 t194 t195 w _ ?side1 ?side2 A23.out).mono ?_); (case side1 => repeat (first | (with_reducible first | exact HI184.out | apply IsS61.alloc | apply IsS61.drewN | apply IsS61.drew | apply IsS61.set_0 | apply IsS61.set_1 | apply IsS61.set_2 | apply IsS61.set_3 | refine IsS61.far ?_ NB184_175.out _) | exact HI184.out)); (case side2 => repeat (first | (with_reducible first | exact HB.out | apply below_alloc | apply pw_below_drewN | apply below_drew1 | refine below_set ?_ (IsS61.ge HI184.out) | refine below_set ?_ (IsS61.ge HI189.out) | refine below_set ?_ GE175.out) | exact HB.out)); rintro e w35 ⟨rfl, hi, hb, hk⟩; refine ⟨_, rfl, ?_⟩; have n0_ := Aside0.mk (KeepBut.blk hk (g' := gb175) (o := .cells #[.int .u64 a0_0, .int .u64 a0_1, .int .u64 a0_2, .int .u64 a0_3, .int .i64 a0_4, .int .i64 a0_5] 34 (0, 0)) (by (with_reducible repeat (first | refine blk_drewN ?_ _ | refine blk_drew ?_ | refine blk_alloc ?_ _)); exact BK175.out) NB175_184.out (by simp)); have n1_ := Aside0.mk ((show IsS61 w _ g189 t185 t186 t187 t188 from ⟨KeepBut.blk hk (show IsS61 w _ g189 t185 t186 t187 t188 from by repeat (first | (with_reducible first | exact HI189.out | apply IsS61.alloc | apply IsS61.drewN | apply IsS61.drew | apply IsS61.set_0 | apply IsS61.set_1 | apply IsS61.set_2 | apply IsS61.set_3 | refine IsS61.far ?_ NB189_175.out _) | exact HI189.out)).1 NB189_184.out (by simp), (show IsS61 w _ g189 t185 t186 t187 t188 from by repeat (first | (with_reducible first | exact HI189.out | apply IsS61.alloc | apply IsS61.drewN | apply IsS61.drew | apply IsS61.set_0 | apply IsS61.set_1 | apply IsS61.set_2 | apply IsS61.set_3 | refine IsS61.far ?_ NB189_175.out _) | exact HI189.out)).2⟩)); have n2_ := Aside0.mk (hb); have n3_ := Aside0.mk (hi); clear BK175; clear HI189; clear HB; clear HI184; have BK175 := n0_; have HI189 := n1_; have HB := n2_; have HI184 := n3_; clear n0_ n1_ n2_ n3_; (try clear hb); (try clear hb2); (try clear hk); (try clear hi)))
            go_meet
            case rel => exact ⟨_, (true), (t192), (t193), (t194), (t195), (t185), (t186), (t187), (t188), (by first | rfl | (simp; done) | (simp [*]; done)), H', ⟨by have := HJ5.out; first | omega | exact Nat.le_refl _⟩, ⟨by (with_reducible repeat (first | refine blk_drewN ?_ _ | refine blk_drew ?_ | refine blk_alloc ?_ _)); exact BK175.out⟩, ⟨by repeat (first | (with_reducible first | exact HI184.out | apply IsS61.alloc | apply IsS61.drewN | apply IsS61.drew | apply IsS61.set_0 | apply IsS61.set_1 | apply IsS61.set_2 | apply IsS61.set_3 | refine IsS61.far ?_ NB184_175.out _) | exact HI184.out)⟩, ⟨by repeat (first | (with_reducible first | exact HI189.out | apply IsS61.alloc | apply IsS61.drewN | apply IsS61.drew | apply IsS61.set_0 | apply IsS61.set_1 | apply IsS61.set_2 | apply IsS61.set_3 | refine IsS61.far ?_ NB189_175.out _) | exact HI189.out)⟩, ⟨by repeat (first | (with_reducible first | exact HB.out | apply below_alloc | apply pw_below_drewN | apply below_drew1 | refine below_set ?_ (IsS61.ge HI184.out) | refine below_set ?_ (IsS61.ge HI189.out) | refine below_set ?_ GE175.out) | exact HB.out)⟩⟩
        case rest =>
          clear HC22
          try clear c1
          try clear c2
          try clear p2
          try clear c3
          try clear c5
          try clear c8
          try clear c9
          try clear c11
          try clear c12
          try clear c14
          try clear c14b0
          try clear c14b1
          try clear c15
          try clear c15b0
          try clear c15b1
          try clear c16
          try clear c17
          try clear c19
          try clear c24
          try clear c24b0
          try clear c24b1
          try clear c26
          try clear c27
          try clear c32
          try clear c33
          try clear hcz10_0
          try clear hcz10_1
          try clear hcz10_2
          try clear hcz10_3
          try clear hcz10_4
          try clear hcz10_5
          try clear hcz18_0
          try clear hcz18_1
          try clear hcz18_2
          try clear hcz18_3
          try clear hcz18_4
          try clear hcz18_5
          try clear hcz28_0
          try clear hcz28_1
          try clear hcz28_2
          try clear hcz28_3
          try clear hcz28_4
          try clear hcz28_5
          try clear hcz30_0
          try clear hcz30_1
          try clear hcz30_2
          try clear hcz30_3
          try clear hcz30_4
          try clear hcz30_5
          try clear hcz34_0
          try clear hcz34_1
          try clear hcz34_2
          try clear hcz34_3
          try clear hcz34_4
          try clear hcz34_5
          try clear hcz8_0
          try clear hcz8_1
          try clear hcz8_2
          try clear hcz8_3
          try clear hcz8_4
          try clear hcz8_5
          try clear hfz10_0
          try clear hfz10_1
          try clear hfz10_2
          try clear hfz10_3
          try clear hfz10_4
          try clear hfz10_5
          try clear hfz18_0
          try clear hfz18_1
          try clear hfz18_2
          try clear hfz18_3
          try clear hfz18_4
          try clear hfz18_5
          try clear hfz28_0
          try clear hfz28_1
          try clear hfz28_2
          try clear hfz28_3
          try clear hfz28_4
          try clear hfz28_5
          try clear hfz30_0
          try clear hfz30_1
          try clear hfz30_2
          try clear hfz30_3
          try clear hfz30_4
          try clear hfz30_5
          try clear hfz34_0
          try clear hfz34_1
          try clear hfz34_2
          try clear hfz34_3
          try clear hfz34_4
          try clear hfz34_5
          try clear hfz8_0
          try clear hfz8_1
          try clear hfz8_2
          try clear hfz8_3
          try clear hfz8_4
          try clear hfz8_5
          try clear p2
          obtain ⟨kq, x67_21, x185000_21, x185001_21, x185002_21, x185003_21, x190000_21, x190001_21, x190002_21, x190003_21, rfl, HA, HJ21, BK175, HI184, HI189, HB⟩ := hcut
          cases kq with
          | zero => exact absurd HA.out (by simp [terracelaw17_SuppressTwo.j1])
          | succ kj21 =>
            have H := HA.out
            clear HA
            simp only [terracelaw17_SuppressTwo.j1] at H
            by_cases c36 : x67_21 = true
            · subst c36
              have H1 : (some false) = some r := by rw [if_pos rfl] at H; exact H
              clear H
              have H := H1
              clear H1
              obtain rfl := Option.some.inj H
              go_wp2
              go_ret
              exact ⟨by first | rfl | (simp [errW_none, errW_some] <;> rfl) | (simp [*, errW_none, errW_some] <;> rfl), by repeat (first | (with_reducible first | exact HB.out | apply below_alloc | apply pw_below_drewN | apply below_drew1 | refine below_set ?_ (IsS61.ge HI184.out) | refine below_set ?_ (IsS61.ge HI189.out) | refine below_set ?_ GE175.out) | exact HB.out)⟩
            · replace c36 := Bool.eq_false_iff.mpr c36
              subst c36
              have H1 : (terracelaw17_SuppressTwo.l0 kj21 0 0 (wrap64 (a0_4 + 1)) 0 a0_0 a0_1 a0_2 a0_3 a0_4 a0_5 x185000_21 x185001_21 x185002_21 x185003_21 x190000_21 x190001_21 x190002_21 x190003_21) = some r := by rw [if_neg (show ¬ (false = true) by decide)] at H; exact H
              clear H
              have H := H1
              clear H1
              have H' := Aside0.mk H
              clear H
              have hnb37 := NB175_184.out
              have hnc37 := NB184_175.out
              have hnb38 := NB175_189.out
              have hnc38 := NB189_175.out
              have hcz39_0 : wc.cell? ⟨gb175, 0, none⟩ = some (.int .u64 a0_0) := (blk_cell BK175.out 0).trans rfl
              have hcz39_1 : wc.cell? ⟨gb175, 1, none⟩ = some (.int .u64 a0_1) := (blk_cell BK175.out 1).trans rfl
              have hcz39_2 : wc.cell? ⟨gb175, 2, none⟩ = some (.int .u64 a0_2) := (blk_cell BK175.out 2).trans rfl
              have hcz39_3 : wc.cell? ⟨gb175, 3, none⟩ = some (.int .u64 a0_3) := (blk_cell BK175.out 3).trans rfl
              have hcz39_4 : wc.cell? ⟨gb175, 4, none⟩ = some (.int .i64 a0_4) := (blk_cell BK175.out 4).trans rfl
              have hcz39_5 : wc.cell? ⟨gb175, 5, none⟩ = some (.int .i64 a0_5) := (blk_cell BK175.out 5).trans rfl
              have hfz39_0 := blk_frozen BK175.out 0
              have hfz39_1 := blk_frozen BK175.out 1
              have hfz39_2 := blk_frozen BK175.out 2
              have hfz39_3 := blk_frozen BK175.out 3
              have hfz39_4 := blk_frozen BK175.out 4
              have hfz39_5 := blk_frozen BK175.out 5
              go_wp2
              go_loopg [9, 10, 71] kj21 (fun kq v9 v10 v71 w' => ∃ (x9_3 : Int) (x10_3 : Int) (x71_3 : Int) (x185000_3 : Int) (x185001_3 : Int) (x185002_3 : Int) (x185003_3 : Bool) (x190000_3 : Int) (x190001_3 : Int) (x190002_3 : Int) (x190003_3 : Bool), v9 = .int .i64 x9_3 ∧ v10 = .int .i64 x10_3 ∧ v71 = .int .i64 x71_3 ∧ Aside0 (terracelaw17_SuppressTwo.l0 kq x9_3 x10_3 (wrap64 (a0_4 + 1)) x71_3 a0_0 a0_1 a0_2 a0_3 a0_4 a0_5 x185000_3 x185001_3 x185002_3 x185003_3 x190000_3 x190001_3 x190002_3 x190003_3 = some r) ∧ Aside0 (kq ≤ kj21) ∧ Aside0 (w'.heap[gb175]? = some (.cells #[.int .u64 a0_0, .int .u64 a0_1, .int .u64 a0_2, .int .u64 a0_3, .int .i64 a0_4, .int .i64 a0_5] 34 (0, 0))) ∧ Aside0 (IsS61 w w' g184 x185000_3 x185001_3 x185002_3 x185003_3) ∧ Aside0 (IsS61 w w' g189 x190000_3 x190001_3 x190002_3 x190003_3) ∧ Aside0 (Below w.heap.size w w'))
              case atStart => exact ⟨(0), (0), (0), (x185000_21), (x185001_21), (x185002_21), (x185003_21), (x190000_21), (x190001_21), (x190002_21), (x190003_21), (by first | rfl | (simp; done) | (simp [*]; done)), (by first | rfl | (simp; done) | (simp [*]; done)), (by first | rfl | (simp; done) | (simp [*]; done)), H', ⟨Nat.le_refl _⟩, ⟨by (with_reducible repeat (first | refine blk_drewN ?_ _ | refine blk_drew ?_ | refine blk_alloc ?_ _)); exact BK175.out⟩, ⟨by repeat (first | (with_reducible first | exact HI184.out | apply IsS61.alloc | apply IsS61.drewN | apply IsS61.drew | apply IsS61.set_0 | apply IsS61.set_1 | apply IsS61.set_2 | apply IsS61.set_3 | refine IsS61.far ?_ NB184_175.out _) | exact HI184.out)⟩, ⟨by repeat (first | (with_reducible first | exact HI189.out | apply IsS61.alloc | apply IsS61.drewN | apply IsS61.drew | apply IsS61.set_0 | apply IsS61.set_1 | apply IsS61.set_2 | apply IsS61.set_3 | refine IsS61.far ?_ NB189_175.out _) | exact HI189.out)⟩, ⟨by repeat (first | (with_reducible first | exact HB.out | apply below_alloc | apply pw_below_drewN | apply below_drew1 | refine below_set ?_ (IsS61.ge HI184.out) | refine below_set ?_ (IsS61.ge HI189.out) | refine below_set ?_ GE175.out) | exact HB.out)⟩⟩
              case round =>
                clear H'
                try clear c1
                try clear c2
                try clear p2
                try clear c3
                try clear c5
                try clear p6
                try clear c8
                try clear c9
                try clear c11
                try clear c12
                try clear c14
                try clear c14b0
                try clear c14b1
                try clear c15
                try clear c15b0
                try clear c15b1
                try clear c16
                try clear c17
                try clear c19
                try clear c24
                try clear c24b0
                try clear c24b1
                try clear c26
                try clear c27
                try clear c32
                try clear c33
                try clear c36
                try clear c37
                try clear c38
                try clear hcz10_0
                try clear hcz10_1
                try clear hcz10_2
                try clear hcz10_3
                try clear hcz10_4
                try clear hcz10_5
                try clear hcz18_0
                try clear hcz18_1
                try clear hcz18_2
                try clear hcz18_3
                try clear hcz18_4
                try clear hcz18_5
                try clear hcz28_0
                try clear hcz28_1
                try clear hcz28_2
                try clear hcz28_3
                try clear hcz28_4
                try clear hcz28_5
                try clear hcz30_0
                try clear hcz30_1
                try clear hcz30_2
                try clear hcz30_3
                try clear hcz30_4
                try clear hcz30_5
                try clear hcz34_0
                try clear hcz34_1
                try clear hcz34_2
                try clear hcz34_3
                try clear hcz34_4
                try clear hcz34_5
                try clear hcz39_0
                try clear hcz39_1
                try clear hcz39_2
                try clear hcz39_3
                try clear hcz39_4
                try clear hcz39_5
                try clear hcz8_0
                try clear hcz8_1
                try clear hcz8_2
                try clear hcz8_3
                try clear hcz8_4
                try clear hcz8_5
                try clear hfz10_0
                try clear hfz10_1
                try clear hfz10_2
                try clear hfz10_3
                try clear hfz10_4
                try clear hfz10_5
                try clear hfz18_0
                try clear hfz18_1
                try clear hfz18_2
                try clear hfz18_3
                try clear hfz18_4
                try clear hfz18_5
                try clear hfz28_0
                try clear hfz28_1
                try clear hfz28_2
                try clear hfz28_3
                try clear hfz28_4
                try clear hfz28_5
                try clear hfz30_0
                try clear hfz30_1
                try clear hfz30_2
                try clear hfz30_3
                try clear hfz30_4
                try clear hfz30_5
                try clear hfz34_0
                try clear hfz34_1
                try clear hfz34_2
                try clear hfz34_3
                try clear hfz34_4
                try clear hfz34_5
                try clear hfz39_0
                try clear hfz39_1
                try clear hfz39_2
                try clear hfz39_3
                try clear hfz39_4
                try clear hfz39_5
                try clear hfz8_0
                try clear hfz8_1
                try clear hfz8_2
                try clear hfz8_3
                try clear hfz8_4
                try clear hfz8_5
                try clear p2
                obtain ⟨x9_3, x10_3, x71_3, x185000_3, x185001_3, x185002_3, x185003_3, x190000_3, x190001_3, x190002_3, x190003_3, rfl, rfl, rfl, HA, HK3, BK175, HI184, HI189, HB⟩ := hrel
                cases gk with
                | zero => exact absurd HA.out (by simp [terracelaw17_SuppressTwo.l0])
                | succ k3 =>
                  have H := HA.out
                  clear HA
                  simp only [terracelaw17_SuppressTwo.l0] at H
                  by_cases c40 : x71_3 < (wrap64 (a0_4 + 1))
                  · rw [if_pos c40] at H
                    have c40b0 : decide (x71_3 < (wrap64 (a0_4 + 1))) = true := decide_eq_true c40
                    clear c40
                    replace H := Option.bind_eq_some_iff.mp H
                    obtain ⟨⟨t202, t203, t204, t205, t206⟩, A410, H⟩ := H
                    replace H : ((suppress_Round_Fire.f x190000_3 x190001_3 x190002_3 x190003_3 x71_3).bind fun bt207 => ((terracelaw17_bit.f t202).bind fun t212 => ((terracelaw17_bit.f bt207.1).bind fun t213 => (if t202 = true then ((suppress_Round_Echo.f bt207.2.1 bt207.2.2.1 bt207.2.2.2.1 bt207.2.2.2.2 1 a0_2).bind fun bt214 => (terracelaw17_SuppressTwo.j3 k3 (wrap64 (x9_3 + (wrap64 (t212 + t213)))) x10_3 bt207.1 (wrap64 (a0_4 + 1)) x71_3 bt214.1 a0_0 a0_1 a0_2 a0_3 a0_4 a0_5 t203 t204 t205 t206 bt214.2.1 bt214.2.2.1 bt214.2.2.2.1 bt214.2.2.2.2)) else (terracelaw17_SuppressTwo.j3 k3 (wrap64 (x9_3 + (wrap64 (t212 + t213)))) x10_3 bt207.1 (wrap64 (a0_4 + 1)) x71_3 false a0_0 a0_1 a0_2 a0_3 a0_4 a0_5 t203 t204 t205 t206 bt207.2.1 bt207.2.2.1 bt207.2.2.2.1 bt207.2.2.2.2))))) = some r := H
                    have A41 := Aside0.mk A410
                    clear A410
                    replace H := Option.bind_eq_some_iff.mp H
                    obtain ⟨⟨t207, t208, t209, t210, t211⟩, A420, H⟩ := H
                    replace H : ((terracelaw17_bit.f t202).bind fun t212 => ((terracelaw17_bit.f t207).bind fun t213 => (if t202 = true then ((suppress_Round_Echo.f t208 t209 t210 t211 1 a0_2).bind fun bt214 => (terracelaw17_SuppressTwo.j3 k3 (wrap64 (x9_3 + (wrap64 (t212 + t213)))) x10_3 t207 (wrap64 (a0_4 + 1)) x71_3 bt214.1 a0_0 a0_1 a0_2 a0_3 a0_4 a0_5 t203 t204 t205 t206 bt214.2.1 bt214.2.2.1 bt214.2.2.2.1 bt214.2.2.2.2)) else (terracelaw17_SuppressTwo.j3 k3 (wrap64 (x9_3 + (wrap64 (t212 + t213)))) x10_3 t207 (wrap64 (a0_4 + 1)) x71_3 false a0_0 a0_1 a0_2 a0_3 a0_4 a0_5 t203 t204 t205 t206 t208 t209 t210 t211)))) = some r := H
                    have A42 := Aside0.mk A420
                    clear A420
                    replace H := Option.bind_eq_some_iff.mp H
                    obtain ⟨t212, A430, H⟩ := H
                    replace H : ((terracelaw17_bit.f t207).bind fun t213 => (if t202 = true then ((suppress_Round_Echo.f t208 t209 t210 t211 1 a0_2).bind fun bt214 => (terracelaw17_SuppressTwo.j3 k3 (wrap64 (x9_3 + (wrap64 (t212 + t213)))) x10_3 t207 (wrap64 (a0_4 + 1)) x71_3 bt214.1 a0_0 a0_1 a0_2 a0_3 a0_4 a0_5 t203 t204 t205 t206 bt214.2.1 bt214.2.2.1 bt214.2.2.2.1 bt214.2.2.2.2)) else (terracelaw17_SuppressTwo.j3 k3 (wrap64 (x9_3 + (wrap64 (t212 + t213)))) x10_3 t207 (wrap64 (a0_4 + 1)) x71_3 false a0_0 a0_1 a0_2 a0_3 a0_4 a0_5 t203 t204 t205 t206 t208 t209 t210 t211))) = some r := H
                    have A43 := Aside0.mk A430
                    clear A430
                    replace H := Option.bind_eq_some_iff.mp H
                    obtain ⟨t213, A440, H⟩ := H
                    replace H : (if t202 = true then ((suppress_Round_Echo.f t208 t209 t210 t211 1 a0_2).bind fun bt214 => (terracelaw17_SuppressTwo.j3 k3 (wrap64 (x9_3 + (wrap64 (t212 + t213)))) x10_3 t207 (wrap64 (a0_4 + 1)) x71_3 bt214.1 a0_0 a0_1 a0_2 a0_3 a0_4 a0_5 t203 t204 t205 t206 bt214.2.1 bt214.2.2.1 bt214.2.2.2.1 bt214.2.2.2.2)) else (terracelaw17_SuppressTwo.j3 k3 (wrap64 (x9_3 + (wrap64 (t212 + t213)))) x10_3 t207 (wrap64 (a0_4 + 1)) x71_3 false a0_0 a0_1 a0_2 a0_3 a0_4 a0_5 t203 t204 t205 t206 t208 t209 t210 t211)) = some r := H
                    have A44 := Aside0.mk A440
                    clear A440
                    have HC45 := Aside0.mk H
                    clear H
                    go_upto_region 16 with (first | ((with_reducible refine gate_callee (f := 13) rfl ?_); refine goesL_ (some 76) rfl rfl Try.func13 (by kernel_rfl) rfl #[.pointer (some ⟨g184, 0, none⟩), .int .i64 x71_3] rfl (by (try simp only [List.map_toArray, List.map_cons, List.map_nil]); first | done | rfl | (simp only [List.length_drop, List.length_take]; rfl)) ?_; (with_reducible refine (suppress_Round_Fire.calls g184 x185000_3 x185001_3 x185002_3 x185003_3 x71_3 t202 t203 t204 t205 t206 w _ ?side1 ?side2 A41.out).mono ?_); (case side1 => repeat (first | (with_reducible first | exact HI184.out | apply IsS61.alloc | apply IsS61.drewN | apply IsS61.drew | apply IsS61.set_0 | apply IsS61.set_1 | apply IsS61.set_2 | apply IsS61.set_3 | refine IsS61.far ?_ NB184_175.out _) | exact HI184.out)); (case side2 => repeat (first | (with_reducible first | exact HB.out | apply below_alloc | apply pw_below_drewN | apply below_drew1 | refine below_set ?_ (IsS61.ge HI184.out) | refine below_set ?_ (IsS61.ge HI189.out) | refine below_set ?_ GE175.out) | exact HB.out)); rintro e w46 ⟨rfl, hi, hb, hk⟩; refine ⟨_, rfl, ?_⟩; have n0_ := Aside0.mk (KeepBut.blk hk (g' := gb175) (o := .cells #[.int .u64 a0_0, .int .u64 a0_1, .int .u64 a0_2, .int .u64 a0_3, .int .i64 a0_4, .int .i64 a0_5] 34 (0, 0)) (by (with_reducible repeat (first | refine blk_drewN ?_ _ | refine blk_drew ?_ | refine blk_alloc ?_ _)); exact BK175.out) NB175_184.out (by simp)); have n1_ := Aside0.mk ((show IsS61 w _ g189 x190000_3 x190001_3 x190002_3 x190003_3 from ⟨KeepBut.blk hk (show IsS61 w _ g189 x190000_3 x190001_3 x190002_3 x190003_3 from by repeat (first | (with_reducible first | exact HI189.out | apply IsS61.alloc | apply IsS61.drewN | apply IsS61.drew | apply IsS61.set_0 | apply IsS61.set_1 | apply IsS61.set_2 | apply IsS61.set_3 | refine IsS61.far ?_ NB189_175.out _) | exact HI189.out)).1 NB189_184.out (by simp), (show IsS61 w _ g189 x190000_3 x190001_3 x190002_3 x190003_3 from by repeat (first | (with_reducible first | exact HI189.out | apply IsS61.alloc | apply IsS61.drewN | apply IsS61.drew | apply IsS61.set_0 | apply IsS61.set_1 | apply IsS61.set_2 | apply IsS61.set_3 | refine IsS61.far ?_ NB189_175.out _) | exact HI189.out)).2⟩)); have n2_ := Aside0.mk (hb); have n3_ := Aside0.mk (hi); clear BK175; clear HI189; clear HB; clear HI184; have BK175 := n0_; have HI189 := n1_; have HB := n2_; have HI184 := n3_; clear n0_ n1_ n2_ n3_; (try clear hb); (try clear hb2); (try clear hk); (try clear hi)) | ((with_reducible refine gate_callee (f := 13) rfl ?_); refine goesL_ (some 79) rfl rfl Try.func13 (by kernel_rfl) rfl #[.pointer (some ⟨g189, 0, none⟩), .int .i64 x71_3] rfl (by (try simp only [List.map_toArray, List.map_cons, List.map_nil]); first | done | rfl | (simp only [List.length_drop, List.length_take]; rfl)) ?_; (with_reducible refine (suppress_Round_Fire.calls g189 x190000_3 x190001_3 x190002_3 x190003_3 x71_3 t207 t208 t209 t210 t211 w _ ?side1 ?side2 A42.out).mono ?_); (case side1 => repeat (first | (with_reducible first | exact HI189.out | apply IsS61.alloc | apply IsS61.drewN | apply IsS61.drew | apply IsS61.set_0 | apply IsS61.set_1 | apply IsS61.set_2 | apply IsS61.set_3 | refine IsS61.far ?_ NB189_175.out _) | exact HI189.out)); (case side2 => repeat (first | (with_reducible first | exact HB.out | apply below_alloc | apply pw_below_drewN | apply below_drew1 | refine below_set ?_ (IsS61.ge HI184.out) | refine below_set ?_ (IsS61.ge HI189.out) | refine below_set ?_ GE175.out) | exact HB.out)); rintro e w47 ⟨rfl, hi, hb, hk⟩; refine ⟨_, rfl, ?_⟩; have n0_ := Aside0.mk (KeepBut.blk hk (g' := gb175) (o := .cells #[.int .u64 a0_0, .int .u64 a0_1, .int .u64 a0_2, .int .u64 a0_3, .int .i64 a0_4, .int .i64 a0_5] 34 (0, 0)) (by (with_reducible repeat (first | refine blk_drewN ?_ _ | refine blk_drew ?_ | refine blk_alloc ?_ _)); exact BK175.out) NB175_189.out (by simp)); have n1_ := Aside0.mk ((show IsS61 w _ g184 t203 t204 t205 t206 from ⟨KeepBut.blk hk (show IsS61 w _ g184 t203 t204 t205 t206 from by repeat (first | (with_reducible first | exact HI184.out | apply IsS61.alloc | apply IsS61.drewN | apply IsS61.drew | apply IsS61.set_0 | apply IsS61.set_1 | apply IsS61.set_2 | apply IsS61.set_3 | refine IsS61.far ?_ NB184_175.out _) | exact HI184.out)).1 NB184_189.out (by simp), (show IsS61 w _ g184 t203 t204 t205 t206 from by repeat (first | (with_reducible first | exact HI184.out | apply IsS61.alloc | apply IsS61.drewN | apply IsS61.drew | apply IsS61.set_0 | apply IsS61.set_1 | apply IsS61.set_2 | apply IsS61.set_3 | refine IsS61.far ?_ NB184_175.out _) | exact HI184.out)).2⟩)); have n2_ := Aside0.mk (hb); have n3_ := Aside0.mk (hi); clear BK175; clear HI184; clear HB; clear HI189; have BK175 := n0_; have HI184 := n1_; have HB := n2_; have HI189 := n3_; clear n0_ n1_ n2_ n3_; (try clear hb); (try clear hb2); (try clear hk); (try clear hi)) | ((with_reducible refine gate_callee (f := 14) rfl ?_); refine goesL_ (some 82) rfl rfl Try.func14 (by kernel_rfl) rfl #[.bool t202] rfl (by (try simp only [List.map_toArray, List.map_cons, List.map_nil]); first | done | rfl | (simp only [List.length_drop, List.length_take]; rfl)) ?_; (with_reducible refine (terracelaw17_bit.calls t202 t212 _ A43.out).mono ?_); rintro e w' ⟨rfl, ⟨nd, rfl⟩⟩; refine ⟨_, rfl, ?_⟩) | ((with_reducible refine gate_callee (f := 14) rfl ?_); refine goesL_ (some 84) rfl rfl Try.func14 (by kernel_rfl) rfl #[.bool t207] rfl (by (try simp only [List.map_toArray, List.map_cons, List.map_nil]); first | done | rfl | (simp only [List.length_drop, List.length_take]; rfl)) ?_; (with_reducible refine (terracelaw17_bit.calls t207 t213 _ A44.out).mono ?_); rintro e w' ⟨rfl, ⟨nd, rfl⟩⟩; refine ⟨_, rfl, ?_⟩))
                    (try simp only [Act.put, List.setIfInBounds_toArray, List.set_cons_zero, List.set_cons_succ])
                    go_cut [93] (fun v93 wc => ∃ (kq : Nat) (x93_44 : Bool) (x190000_44 : Int) (x190001_44 : Int) (x190002_44 : Int) (x190003_44 : Bool), v93 = .bool x93_44 ∧ Aside0 (terracelaw17_SuppressTwo.j3 kq (wrap64 (x9_3 + (wrap64 (t212 + t213)))) x10_3 t207 (wrap64 (a0_4 + 1)) x71_3 x93_44 a0_0 a0_1 a0_2 a0_3 a0_4 a0_5 t203 t204 t205 t206 x190000_44 x190001_44 x190002_44 x190003_44 = some r) ∧ Aside0 (kq ≤ k3) ∧ Aside0 (wc.heap[gb175]? = some (.cells #[.int .u64 a0_0, .int .u64 a0_1, .int .u64 a0_2, .int .u64 a0_3, .int .i64 a0_4, .int .i64 a0_5] 34 (0, 0))) ∧ Aside0 (IsS61 w wc g184 t203 t204 t205 t206) ∧ Aside0 (IsS61 w wc g189 x190000_44 x190001_44 x190002_44 x190003_44) ∧ Aside0 (Below w.heap.size w wc))
                    case first =>
                      have H := HC45.out
                      clear HC45
                      by_cases c48 : t202 = true
                      · subst c48
                        have H1 : ((suppress_Round_Echo.f t208 t209 t210 t211 1 a0_2).bind fun bt214 => (terracelaw17_SuppressTwo.j3 k3 (wrap64 (x9_3 + (wrap64 (t212 + t213)))) x10_3 t207 (wrap64 (a0_4 + 1)) x71_3 bt214.1 a0_0 a0_1 a0_2 a0_3 a0_4 a0_5 t203 t204 t205 t206 bt214.2.1 bt214.2.2.1 bt214.2.2.2.1 bt214.2.2.2.2)) = some r := by rw [if_pos rfl] at H; exact H
                        clear H
                        have H := H1
                        clear H1
                        replace H := Option.bind_eq_some_iff.mp H
                        obtain ⟨⟨t214, t215, t216, t217, t218⟩, A490, H⟩ := H
                        replace H : (terracelaw17_SuppressTwo.j3 k3 (wrap64 (x9_3 + (wrap64 (t212 + t213)))) x10_3 t207 (wrap64 (a0_4 + 1)) x71_3 t214 a0_0 a0_1 a0_2 a0_3 a0_4 a0_5 t203 t204 t205 t206 t215 t216 t217 t218) = some r := H
                        have A49 := Aside0.mk A490
                        clear A490
                        have H' := Aside0.mk H
                        clear H
                        have hnb50 := NB175_184.out
                        have hnc50 := NB184_175.out
                        have hnb51 := NB175_189.out
                        have hnc51 := NB189_175.out
                        have hcz52_0 : w47.cell? ⟨gb175, 0, none⟩ = some (.int .u64 a0_0) := (blk_cell BK175.out 0).trans rfl
                        have hcz52_1 : w47.cell? ⟨gb175, 1, none⟩ = some (.int .u64 a0_1) := (blk_cell BK175.out 1).trans rfl
                        have hcz52_2 : w47.cell? ⟨gb175, 2, none⟩ = some (.int .u64 a0_2) := (blk_cell BK175.out 2).trans rfl
                        have hcz52_3 : w47.cell? ⟨gb175, 3, none⟩ = some (.int .u64 a0_3) := (blk_cell BK175.out 3).trans rfl
                        have hcz52_4 : w47.cell? ⟨gb175, 4, none⟩ = some (.int .i64 a0_4) := (blk_cell BK175.out 4).trans rfl
                        have hcz52_5 : w47.cell? ⟨gb175, 5, none⟩ = some (.int .i64 a0_5) := (blk_cell BK175.out 5).trans rfl
                        have hfz52_0 := blk_frozen BK175.out 0
                        have hfz52_1 := blk_frozen BK175.out 1
                        have hfz52_2 := blk_frozen BK175.out 2
                        have hfz52_3 := blk_frozen BK175.out 3
                        have hfz52_4 := blk_frozen BK175.out 4
                        have hfz52_5 := blk_frozen BK175.out 5
                        go_wp2_with (first | (go_at_call 15; (with_reducible refine (suppress_Round_Echo.calls g189 t208 t209 t210 t211 1 a0_2 t214 t215 t216 t217 t218 w _ ?side1 ?side2 A49.out).mono ?_); (case side1 => repeat (first | (with_reducible first | exact HI189.out | apply IsS61.alloc | apply IsS61.drewN | apply IsS61.drew | apply IsS61.set_0 | apply IsS61.set_1 | apply IsS61.set_2 | apply IsS61.set_3 | refine IsS61.far ?_ NB189_175.out _) | exact HI189.out)); (case side2 => repeat (first | (with_reducible first | exact HB.out | apply below_alloc | apply pw_below_drewN | apply below_drew1 | refine below_set ?_ (IsS61.ge HI184.out) | refine below_set ?_ (IsS61.ge HI189.out) | refine below_set ?_ GE175.out) | exact HB.out)); rintro e w53 ⟨rfl, hi, hb, hk⟩; have n0_ := Aside0.mk (KeepBut.blk hk (g' := gb175) (o := .cells #[.int .u64 a0_0, .int .u64 a0_1, .int .u64 a0_2, .int .u64 a0_3, .int .i64 a0_4, .int .i64 a0_5] 34 (0, 0)) (by (with_reducible repeat (first | refine blk_drewN ?_ _ | refine blk_drew ?_ | refine blk_alloc ?_ _)); exact BK175.out) NB175_189.out (by simp)); have n1_ := Aside0.mk ((show IsS61 w _ g184 t203 t204 t205 t206 from ⟨KeepBut.blk hk (show IsS61 w _ g184 t203 t204 t205 t206 from by repeat (first | (with_reducible first | exact HI184.out | apply IsS61.alloc | apply IsS61.drewN | apply IsS61.drew | apply IsS61.set_0 | apply IsS61.set_1 | apply IsS61.set_2 | apply IsS61.set_3 | refine IsS61.far ?_ NB184_175.out _) | exact HI184.out)).1 NB184_189.out (by simp), (show IsS61 w _ g184 t203 t204 t205 t206 from by repeat (first | (with_reducible first | exact HI184.out | apply IsS61.alloc | apply IsS61.drewN | apply IsS61.drew | apply IsS61.set_0 | apply IsS61.set_1 | apply IsS61.set_2 | apply IsS61.set_3 | refine IsS61.far ?_ NB184_175.out _) | exact HI184.out)).2⟩)); have n2_ := Aside0.mk (hb); have n3_ := Aside0.mk (hi); clear BK175; clear HI184; clear HB; clear HI189; have BK175 := n0_; have HI184 := n1_; have HB := n2_; have HI189 := n3_; clear n0_ n1_ n2_ n3_; (try clear hb); (try clear hb2); (try clear hk); (try clear hi)))
                        go_meet
                        case rel => exact ⟨_, (t214), (t215), (t216), (t217), (t218), (by first | rfl | (simp; done) | (simp [*]; done)), H', ⟨by have := HJ5.out; have := HJ21.out; have := HK3.out; first | omega | exact Nat.le_refl _⟩, ⟨by (with_reducible repeat (first | refine blk_drewN ?_ _ | refine blk_drew ?_ | refine blk_alloc ?_ _)); exact BK175.out⟩, ⟨by repeat (first | (with_reducible first | exact HI184.out | apply IsS61.alloc | apply IsS61.drewN | apply IsS61.drew | apply IsS61.set_0 | apply IsS61.set_1 | apply IsS61.set_2 | apply IsS61.set_3 | refine IsS61.far ?_ NB184_175.out _) | exact HI184.out)⟩, ⟨by repeat (first | (with_reducible first | exact HI189.out | apply IsS61.alloc | apply IsS61.drewN | apply IsS61.drew | apply IsS61.set_0 | apply IsS61.set_1 | apply IsS61.set_2 | apply IsS61.set_3 | refine IsS61.far ?_ NB189_175.out _) | exact HI189.out)⟩, ⟨by repeat (first | (with_reducible first | exact HB.out | apply below_alloc | apply pw_below_drewN | apply below_drew1 | refine below_set ?_ (IsS61.ge HI184.out) | refine below_set ?_ (IsS61.ge HI189.out) | refine below_set ?_ GE175.out) | exact HB.out)⟩⟩
                      · replace c48 := Bool.eq_false_iff.mpr c48
                        subst c48
                        have H1 : (terracelaw17_SuppressTwo.j3 k3 (wrap64 (x9_3 + (wrap64 (t212 + t213)))) x10_3 t207 (wrap64 (a0_4 + 1)) x71_3 false a0_0 a0_1 a0_2 a0_3 a0_4 a0_5 t203 t204 t205 t206 t208 t209 t210 t211) = some r := by rw [if_neg (show ¬ (false = true) by decide)] at H; exact H
                        clear H
                        have H := H1
                        clear H1
                        have H' := Aside0.mk H
                        clear H
                        go_wp2
                        go_meet
                        case rel => exact ⟨_, (false), (t208), (t209), (t210), (t211), (by first | rfl | (simp; done) | (simp [*]; done)), H', ⟨by have := HJ5.out; have := HJ21.out; have := HK3.out; first | omega | exact Nat.le_refl _⟩, ⟨by (with_reducible repeat (first | refine blk_drewN ?_ _ | refine blk_drew ?_ | refine blk_alloc ?_ _)); exact BK175.out⟩, ⟨by repeat (first | (with_reducible first | exact HI184.out | apply IsS61.alloc | apply IsS61.drewN | apply IsS61.drew | apply IsS61.set_0 | apply IsS61.set_1 | apply IsS61.set_2 | apply IsS61.set_3 | refine IsS61.far ?_ NB184_175.out _) | exact HI184.out)⟩, ⟨by repeat (first | (with_reducible first | exact HI189.out | apply IsS61.alloc | apply IsS61.drewN | apply IsS61.drew | apply IsS61.set_0 | apply IsS61.set_1 | apply IsS61.set_2 | apply IsS61.set_3 | refine IsS61.far ?_ NB189_175.out _) | exact HI189.out)⟩, ⟨by repeat (first | (with_reducible first | exact HB.out | apply below_alloc | apply pw_below_drewN | apply below_drew1 | refine below_set ?_ (IsS61.ge HI184.out) | refine below_set ?_ (IsS61.ge HI189.out) | refine below_set ?_ GE175.out) | exact HB.out)⟩⟩
                    case rest =>
                      clear HC45
                      try clear c1
                      try clear c2
                      try clear p2
                      try clear c3
                      try clear c4
                      try clear c5
                      try clear p6
                      try clear c8
                      try clear c9
                      try clear c11
                      try clear c12
                      try clear c13
                      try clear c14
                      try clear c14b0
                      try clear c14b1
                      try clear c15
                      try clear c15b0
                      try clear c15b1
                      try clear c16
                      try clear c17
                      try clear c19
                      try clear c24
                      try clear c24b0
                      try clear c24b1
                      try clear c26
                      try clear c27
                      try clear c32
                      try clear c33
                      try clear c36
                      try clear c37
                      try clear c38
                      try clear c40
                      try clear c40b0
                      try clear c48
                      try clear c50
                      try clear c51
                      try clear hcz10_0
                      try clear hcz10_1
                      try clear hcz10_2
                      try clear hcz10_3
                      try clear hcz10_4
                      try clear hcz10_5
                      try clear hcz18_0
                      try clear hcz18_1
                      try clear hcz18_2
                      try clear hcz18_3
                      try clear hcz18_4
                      try clear hcz18_5
                      try clear hcz28_0
                      try clear hcz28_1
                      try clear hcz28_2
                      try clear hcz28_3
                      try clear hcz28_4
                      try clear hcz28_5
                      try clear hcz30_0
                      try clear hcz30_1
                      try clear hcz30_2
                      try clear hcz30_3
                      try clear hcz30_4
                      try clear hcz30_5
                      try clear hcz34_0
                      try clear hcz34_1
                      try clear hcz34_2
                      try clear hcz34_3
                      try clear hcz34_4
                      try clear hcz34_5
                      try clear hcz39_0
                      try clear hcz39_1
                      try clear hcz39_2
                      try clear hcz39_3
                      try clear hcz39_4
                      try clear hcz39_5
                      try clear hcz52_0
                      try clear hcz52_1
                      try clear hcz52_2
                      try clear hcz52_3
                      try clear hcz52_4
                      try clear hcz52_5
                      try clear hcz8_0
                      try clear hcz8_1
                      try clear hcz8_2
                      try clear hcz8_3
                      try clear hcz8_4
                      try clear hcz8_5
                      try clear hfz10_0
                      try clear hfz10_1
                      try clear hfz10_2
                      try clear hfz10_3
                      try clear hfz10_4
                      try clear hfz10_5
                      try clear hfz18_0
                      try clear hfz18_1
                      try clear hfz18_2
                      try clear hfz18_3
                      try clear hfz18_4
                      try clear hfz18_5
                      try clear hfz28_0
                      try clear hfz28_1
                      try clear hfz28_2
                      try clear hfz28_3
                      try clear hfz28_4
                      try clear hfz28_5
                      try clear hfz30_0
                      try clear hfz30_1
                      try clear hfz30_2
                      try clear hfz30_3
                      try clear hfz30_4
                      try clear hfz30_5
                      try clear hfz34_0
                      try clear hfz34_1
                      try clear hfz34_2
                      try clear hfz34_3
                      try clear hfz34_4
                      try clear hfz34_5
                      try clear hfz39_0
                      try clear hfz39_1
                      try clear hfz39_2
                      try clear hfz39_3
                      try clear hfz39_4
                      try clear hfz39_5
                      try clear hfz52_0
                      try clear hfz52_1
                      try clear hfz52_2
                      try clear hfz52_3
                      try clear hfz52_4
                      try clear hfz52_5
                      try clear hfz8_0
                      try clear hfz8_1
                      try clear hfz8_2
                      try clear hfz8_3
                      try clear hfz8_4
                      try clear hfz8_5
                      try clear p2
                      try clear p6
                      obtain ⟨kq, x93_44, x190000_44, x190001_44, x190002_44, x190003_44, rfl, HA, HJ44, BK175, HI184, HI189, HB⟩ := hcut
                      cases kq with
                      | zero => exact absurd HA.out (by simp [terracelaw17_SuppressTwo.j3])
                      | succ kj44 =>
                        have H := HA.out
                        clear HA
                        simp only [terracelaw17_SuppressTwo.j3] at H
                        by_cases c54 : x93_44 = true
                        · subst c54
                          have H1 : (if t207 = true then ((suppress_Round_Echo.f t203 t204 t205 t206 1 a0_3).bind fun bt219 => (if bt219.1 = true then (terracelaw17_SuppressTwo.l0 kj44 (wrap64 (x9_3 + (wrap64 (t212 + t213)))) (wrap64 ((wrap64 (x10_3 + 1)) + 1)) (wrap64 (a0_4 + 1)) (wrap64 (x71_3 + 1)) a0_0 a0_1 a0_2 a0_3 a0_4 a0_5 bt219.2.1 bt219.2.2.1 bt219.2.2.2.1 bt219.2.2.2.2 x190000_44 x190001_44 x190002_44 x190003_44) else (terracelaw17_SuppressTwo.l0 kj44 (wrap64 (x9_3 + (wrap64 (t212 + t213)))) (wrap64 (x10_3 + 1)) (wrap64 (a0_4 + 1)) (wrap64 (x71_3 + 1)) a0_0 a0_1 a0_2 a0_3 a0_4 a0_5 bt219.2.1 bt219.2.2.1 bt219.2.2.2.1 bt219.2.2.2.2 x190000_44 x190001_44 x190002_44 x190003_44))) else (terracelaw17_SuppressTwo.l0 kj44 (wrap64 (x9_3 + (wrap64 (t212 + t213)))) (wrap64 (x10_3 + 1)) (wrap64 (a0_4 + 1)) (wrap64 (x71_3 + 1)) a0_0 a0_1 a0_2 a0_3 a0_4 a0_5 t203 t204 t205 t206 x190000_44 x190001_44 x190002_44 x190003_44)) = some r := by rw [if_pos rfl] at H; exact H
                          clear H
                          have H := H1
                          clear H1
                          by_cases c55 : t207 = true
                          · subst c55
                            have H1 : ((suppress_Round_Echo.f t203 t204 t205 t206 1 a0_3).bind fun bt219 => (if bt219.1 = true then (terracelaw17_SuppressTwo.l0 kj44 (wrap64 (x9_3 + (wrap64 (t212 + t213)))) (wrap64 ((wrap64 (x10_3 + 1)) + 1)) (wrap64 (a0_4 + 1)) (wrap64 (x71_3 + 1)) a0_0 a0_1 a0_2 a0_3 a0_4 a0_5 bt219.2.1 bt219.2.2.1 bt219.2.2.2.1 bt219.2.2.2.2 x190000_44 x190001_44 x190002_44 x190003_44) else (terracelaw17_SuppressTwo.l0 kj44 (wrap64 (x9_3 + (wrap64 (t212 + t213)))) (wrap64 (x10_3 + 1)) (wrap64 (a0_4 + 1)) (wrap64 (x71_3 + 1)) a0_0 a0_1 a0_2 a0_3 a0_4 a0_5 bt219.2.1 bt219.2.2.1 bt219.2.2.2.1 bt219.2.2.2.2 x190000_44 x190001_44 x190002_44 x190003_44))) = some r := by rw [if_pos rfl] at H; exact H
                            clear H
                            have H := H1
                            clear H1
                            replace H := Option.bind_eq_some_iff.mp H
                            obtain ⟨⟨t219, t220, t221, t222, t223⟩, A560, H⟩ := H
                            replace H : (if t219 = true then (terracelaw17_SuppressTwo.l0 kj44 (wrap64 (x9_3 + (wrap64 (t212 + t213)))) (wrap64 ((wrap64 (x10_3 + 1)) + 1)) (wrap64 (a0_4 + 1)) (wrap64 (x71_3 + 1)) a0_0 a0_1 a0_2 a0_3 a0_4 a0_5 t220 t221 t222 t223 x190000_44 x190001_44 x190002_44 x190003_44) else (terracelaw17_SuppressTwo.l0 kj44 (wrap64 (x9_3 + (wrap64 (t212 + t213)))) (wrap64 (x10_3 + 1)) (wrap64 (a0_4 + 1)) (wrap64 (x71_3 + 1)) a0_0 a0_1 a0_2 a0_3 a0_4 a0_5 t220 t221 t222 t223 x190000_44 x190001_44 x190002_44 x190003_44)) = some r := H
                            have A56 := Aside0.mk A560
                            clear A560
                            by_cases c57 : t219 = true
                            · subst c57
                              have H1 : (terracelaw17_SuppressTwo.l0 kj44 (wrap64 (x9_3 + (wrap64 (t212 + t213)))) (wrap64 ((wrap64 (x10_3 + 1)) + 1)) (wrap64 (a0_4 + 1)) (wrap64 (x71_3 + 1)) a0_0 a0_1 a0_2 a0_3 a0_4 a0_5 t220 t221 t222 t223 x190000_44 x190001_44 x190002_44 x190003_44) = some r := by rw [if_pos rfl] at H; exact H
                              clear H
                              have H := H1
                              clear H1
                              have H' := Aside0.mk H
                              clear H
                              have hnb58 := NB175_184.out
                              have hnc58 := NB184_175.out
                              have hnb59 := NB175_189.out
                              have hnc59 := NB189_175.out
                              have hcz60_0 : wc.cell? ⟨gb175, 0, none⟩ = some (.int .u64 a0_0) := (blk_cell BK175.out 0).trans rfl
                              have hcz60_1 : wc.cell? ⟨gb175, 1, none⟩ = some (.int .u64 a0_1) := (blk_cell BK175.out 1).trans rfl
                              have hcz60_2 : wc.cell? ⟨gb175, 2, none⟩ = some (.int .u64 a0_2) := (blk_cell BK175.out 2).trans rfl
                              have hcz60_3 : wc.cell? ⟨gb175, 3, none⟩ = some (.int .u64 a0_3) := (blk_cell BK175.out 3).trans rfl
                              have hcz60_4 : wc.cell? ⟨gb175, 4, none⟩ = some (.int .i64 a0_4) := (blk_cell BK175.out 4).trans rfl
                              have hcz60_5 : wc.cell? ⟨gb175, 5, none⟩ = some (.int .i64 a0_5) := (blk_cell BK175.out 5).trans rfl
                              have hfz60_0 := blk_frozen BK175.out 0
                              have hfz60_1 := blk_frozen BK175.out 1
                              have hfz60_2 := blk_frozen BK175.out 2
                              have hfz60_3 := blk_frozen BK175.out 3
                              have hfz60_4 := blk_frozen BK175.out 4
                              have hfz60_5 := blk_frozen BK175.out 5
                              go_wp2_with (first | (go_at_call 15; (with_reducible refine (suppress_Round_Echo.calls g184 t203 t204 t205 t206 1 a0_3 true t220 t221 t222 t223 w _ ?side1 ?side2 A56.out).mono ?_); (case side1 => repeat (first | (with_reducible first | exact HI184.out | apply IsS61.alloc | apply IsS61.drewN | apply IsS61.drew | apply IsS61.set_0 | apply IsS61.set_1 | apply IsS61.set_2 | apply IsS61.set_3 | refine IsS61.far ?_ NB184_175.out _) | exact HI184.out)); (case side2 => repeat (first | (with_reducible first | exact HB.out | apply below_alloc | apply pw_below_drewN | apply below_drew1 | refine below_set ?_ (IsS61.ge HI184.out) | refine below_set ?_ (IsS61.ge HI189.out) | refine below_set ?_ GE175.out) | exact HB.out)); rintro e w61 ⟨rfl, hi, hb, hk⟩; have n0_ := Aside0.mk (KeepBut.blk hk (g' := gb175) (o := .cells #[.int .u64 a0_0, .int .u64 a0_1, .int .u64 a0_2, .int .u64 a0_3, .int .i64 a0_4, .int .i64 a0_5] 34 (0, 0)) (by (with_reducible repeat (first | refine blk_drewN ?_ _ | refine blk_drew ?_ | refine blk_alloc ?_ _)); exact BK175.out) NB175_184.out (by simp)); have n1_ := Aside0.mk ((show IsS61 w _ g189 x190000_44 x190001_44 x190002_44 x190003_44 from ⟨KeepBut.blk hk (show IsS61 w _ g189 x190000_44 x190001_44 x190002_44 x190003_44 from by repeat (first | (with_reducible first | exact HI189.out | apply IsS61.alloc | apply IsS61.drewN | apply IsS61.drew | apply IsS61.set_0 | apply IsS61.set_1 | apply IsS61.set_2 | apply IsS61.set_3 | refine IsS61.far ?_ NB189_175.out _) | exact HI189.out)).1 NB189_184.out (by simp), (show IsS61 w _ g189 x190000_44 x190001_44 x190002_44 x190003_44 from by repeat (first | (with_reducible first | exact HI189.out | apply IsS61.alloc | apply IsS61.drewN | apply IsS61.drew | apply IsS61.set_0 | apply IsS61.set_1 | apply IsS61.set_2 | apply IsS61.set_3 | refine IsS61.far ?_ NB189_175.out _) | exact HI189.out)).2⟩)); have n2_ := Aside0.mk (hb); have n3_ := Aside0.mk (hi); clear BK175; clear HI189; clear HB; clear HI184; have BK175 := n0_; have HI189 := n1_; have HB := n2_; have HI184 := n3_; clear n0_ n1_ n2_ n3_; (try clear hb); (try clear hb2); (try clear hk); (try clear hi)))
                              go_roundg kj44
                              case measure => have := HJ5.out; have := HJ21.out; have := HK3.out; have := HJ44.out; omega
                              case rel => exact ⟨((wrap64 (x9_3 + (wrap64 (t212 + t213))))), (wrap64 ((wrap64 (x10_3 + 1)) + 1)), (wrap64 (x71_3 + 1)), (t220), (t221), (t222), (t223), (x190000_44), (x190001_44), (x190002_44), (x190003_44), (by first | rfl | (simp; done) | (simp [*]; done)), (by first | rfl | (simp; done) | (simp [*]; done)), (by first | rfl | (simp; done) | (simp [*]; done)), H', ⟨by have := HJ5.out; have := HJ21.out; have := HK3.out; have := HJ44.out; omega⟩, ⟨by (with_reducible repeat (first | refine blk_drewN ?_ _ | refine blk_drew ?_ | refine blk_alloc ?_ _)); exact BK175.out⟩, ⟨by repeat (first | (with_reducible first | exact HI184.out | apply IsS61.alloc | apply IsS61.drewN | apply IsS61.drew | apply IsS61.set_0 | apply IsS61.set_1 | apply IsS61.set_2 | apply IsS61.set_3 | refine IsS61.far ?_ NB184_175.out _) | exact HI184.out)⟩, ⟨by repeat (first | (with_reducible first | exact HI189.out | apply IsS61.alloc | apply IsS61.drewN | apply IsS61.drew | apply IsS61.set_0 | apply IsS61.set_1 | apply IsS61.set_2 | apply IsS61.set_3 | refine IsS61.far ?_ NB189_175.out _) | exact HI189.out)⟩, ⟨by repeat (first | (with_reducible first | exact HB.out | apply below_alloc | apply pw_below_drewN | apply below_drew1 | refine below_set ?_ (IsS61.ge HI184.out) | refine below_set ?_ (IsS61.ge HI189.out) | refine below_set ?_ GE175.out) | exact HB.out)⟩⟩
                            · replace c57 := Bool.eq_false_iff.mpr c57
                              subst c57
                              have H1 : (terracelaw17_SuppressTwo.l0 kj44 (wrap64 (x9_3 + (wrap64 (t212 + t213)))) (wrap64 (x10_3 + 1)) (wrap64 (a0_4 + 1)) (wrap64 (x71_3 + 1)) a0_0 a0_1 a0_2 a0_3 a0_4 a0_5 t220 t221 t222 t223 x190000_44 x190001_44 x190002_44 x190003_44) = some r := by rw [if_neg (show ¬ (false = true) by decide)] at H; exact H
                              clear H
                              have H := H1
                              clear H1
                              have H' := Aside0.mk H
                              clear H
                              have hnb62 := NB175_184.out
                              have hnc62 := NB184_175.out
                              have hnb63 := NB175_189.out
                              have hnc63 := NB189_175.out
                              have hcz64_0 : wc.cell? ⟨gb175, 0, none⟩ = some (.int .u64 a0_0) := (blk_cell BK175.out 0).trans rfl
                              have hcz64_1 : wc.cell? ⟨gb175, 1, none⟩ = some (.int .u64 a0_1) := (blk_cell BK175.out 1).trans rfl
                              have hcz64_2 : wc.cell? ⟨gb175, 2, none⟩ = some (.int .u64 a0_2) := (blk_cell BK175.out 2).trans rfl
                              have hcz64_3 : wc.cell? ⟨gb175, 3, none⟩ = some (.int .u64 a0_3) := (blk_cell BK175.out 3).trans rfl
                              have hcz64_4 : wc.cell? ⟨gb175, 4, none⟩ = some (.int .i64 a0_4) := (blk_cell BK175.out 4).trans rfl
                              have hcz64_5 : wc.cell? ⟨gb175, 5, none⟩ = some (.int .i64 a0_5) := (blk_cell BK175.out 5).trans rfl
                              have hfz64_0 := blk_frozen BK175.out 0
                              have hfz64_1 := blk_frozen BK175.out 1
                              have hfz64_2 := blk_frozen BK175.out 2
                              have hfz64_3 := blk_frozen BK175.out 3
                              have hfz64_4 := blk_frozen BK175.out 4
                              have hfz64_5 := blk_frozen BK175.out 5
                              go_wp2_with (first | (go_at_call 15; (with_reducible refine (suppress_Round_Echo.calls g184 t203 t204 t205 t206 1 a0_3 false t220 t221 t222 t223 w _ ?side1 ?side2 A56.out).mono ?_); (case side1 => repeat (first | (with_reducible first | exact HI184.out | apply IsS61.alloc | apply IsS61.drewN | apply IsS61.drew | apply IsS61.set_0 | apply IsS61.set_1 | apply IsS61.set_2 | apply IsS61.set_3 | refine IsS61.far ?_ NB184_175.out _) | exact HI184.out)); (case side2 => repeat (first | (with_reducible first | exact HB.out | apply below_alloc | apply pw_below_drewN | apply below_drew1 | refine below_set ?_ (IsS61.ge HI184.out) | refine below_set ?_ (IsS61.ge HI189.out) | refine below_set ?_ GE175.out) | exact HB.out)); rintro e w65 ⟨rfl, hi, hb, hk⟩; have n0_ := Aside0.mk (KeepBut.blk hk (g' := gb175) (o := .cells #[.int .u64 a0_0, .int .u64 a0_1, .int .u64 a0_2, .int .u64 a0_3, .int .i64 a0_4, .int .i64 a0_5] 34 (0, 0)) (by (with_reducible repeat (first | refine blk_drewN ?_ _ | refine blk_drew ?_ | refine blk_alloc ?_ _)); exact BK175.out) NB175_184.out (by simp)); have n1_ := Aside0.mk ((show IsS61 w _ g189 x190000_44 x190001_44 x190002_44 x190003_44 from ⟨KeepBut.blk hk (show IsS61 w _ g189 x190000_44 x190001_44 x190002_44 x190003_44 from by repeat (first | (with_reducible first | exact HI189.out | apply IsS61.alloc | apply IsS61.drewN | apply IsS61.drew | apply IsS61.set_0 | apply IsS61.set_1 | apply IsS61.set_2 | apply IsS61.set_3 | refine IsS61.far ?_ NB189_175.out _) | exact HI189.out)).1 NB189_184.out (by simp), (show IsS61 w _ g189 x190000_44 x190001_44 x190002_44 x190003_44 from by repeat (first | (with_reducible first | exact HI189.out | apply IsS61.alloc | apply IsS61.drewN | apply IsS61.drew | apply IsS61.set_0 | apply IsS61.set_1 | apply IsS61.set_2 | apply IsS61.set_3 | refine IsS61.far ?_ NB189_175.out _) | exact HI189.out)).2⟩)); have n2_ := Aside0.mk (hb); have n3_ := Aside0.mk (hi); clear BK175; clear HI189; clear HB; clear HI184; have BK175 := n0_; have HI189 := n1_; have HB := n2_; have HI184 := n3_; clear n0_ n1_ n2_ n3_; (try clear hb); (try clear hb2); (try clear hk); (try clear hi)))
                              go_roundg kj44
                              case measure => have := HJ5.out; have := HJ21.out; have := HK3.out; have := HJ44.out; omega
                              case rel => exact ⟨((wrap64 (x9_3 + (wrap64 (t212 + t213))))), (wrap64 (x10_3 + 1)), (wrap64 (x71_3 + 1)), (t220), (t221), (t222), (t223), (x190000_44), (x190001_44), (x190002_44), (x190003_44), (by first | rfl | (simp; done) | (simp [*]; done)), (by first | rfl | (simp; done) | (simp [*]; done)), (by first | rfl | (simp; done) | (simp [*]; done)), H', ⟨by have := HJ5.out; have := HJ21.out; have := HK3.out; have := HJ44.out; omega⟩, ⟨by (with_reducible repeat (first | refine blk_drewN ?_ _ | refine blk_drew ?_ | refine blk_alloc ?_ _)); exact BK175.out⟩, ⟨by repeat (first | (with_reducible first | exact HI184.out | apply IsS61.alloc | apply IsS61.drewN | apply IsS61.drew | apply IsS61.set_0 | apply IsS61.set_1 | apply IsS61.set_2 | apply IsS61.set_3 | refine IsS61.far ?_ NB184_175.out _) | exact HI184.out)⟩, ⟨by repeat (first | (with_reducible first | exact HI189.out | apply IsS61.alloc | apply IsS61.drewN | apply IsS61.drew | apply IsS61.set_0 | apply IsS61.set_1 | apply IsS61.set_2 | apply IsS61.set_3 | refine IsS61.far ?_ NB189_175.out _) | exact HI189.out)⟩, ⟨by repeat (first | (with_reducible first | exact HB.out | apply below_alloc | apply pw_below_drewN | apply below_drew1 | refine below_set ?_ (IsS61.ge HI184.out) | refine below_set ?_ (IsS61.ge HI189.out) | refine below_set ?_ GE175.out) | exact HB.out)⟩⟩
                          · replace c55 := Bool.eq_false_iff.mpr c55
                            subst c55
                            have H1 : (terracelaw17_SuppressTwo.l0 kj44 (wrap64 (x9_3 + (wrap64 (t212 + t213)))) (wrap64 (x10_3 + 1)) (wrap64 (a0_4 + 1)) (wrap64 (x71_3 + 1)) a0_0 a0_1 a0_2 a0_3 a0_4 a0_5 t203 t204 t205 t206 x190000_44 x190001_44 x190002_44 x190003_44) = some r := by rw [if_neg (show ¬ (false = true) by decide)] at H; exact H
                            clear H
                            have H := H1
                            clear H1
                            have H' := Aside0.mk H
                            clear H
                            go_wp2
                            go_roundg kj44
                            case measure => have := HJ5.out; have := HJ21.out; have := HK3.out; have := HJ44.out; omega
                            case rel => exact ⟨((wrap64 (x9_3 + (wrap64 (t212 + t213))))), (wrap64 (x10_3 + 1)), (wrap64 (x71_3 + 1)), (t203), (t204), (t205), (t206), (x190000_44), (x190001_44), (x190002_44), (x190003_44), (by first | rfl | (simp; done) | (simp [*]; done)), (by first | rfl | (simp; done) | (simp [*]; done)), (by first | rfl | (simp; done) | (simp [*]; done)), H', ⟨by have := HJ5.out; have := HJ21.out; have := HK3.out; have := HJ44.out; omega⟩, ⟨by (with_reducible repeat (first | refine blk_drewN ?_ _ | refine blk_drew ?_ | refine blk_alloc ?_ _)); exact BK175.out⟩, ⟨by repeat (first | (with_reducible first | exact HI184.out | apply IsS61.alloc | apply IsS61.drewN | apply IsS61.drew | apply IsS61.set_0 | apply IsS61.set_1 | apply IsS61.set_2 | apply IsS61.set_3 | refine IsS61.far ?_ NB184_175.out _) | exact HI184.out)⟩, ⟨by repeat (first | (with_reducible first | exact HI189.out | apply IsS61.alloc | apply IsS61.drewN | apply IsS61.drew | apply IsS61.set_0 | apply IsS61.set_1 | apply IsS61.set_2 | apply IsS61.set_3 | refine IsS61.far ?_ NB189_175.out _) | exact HI189.out)⟩, ⟨by repeat (first | (with_reducible first | exact HB.out | apply below_alloc | apply pw_below_drewN | apply below_drew1 | refine below_set ?_ (IsS61.ge HI184.out) | refine below_set ?_ (IsS61.ge HI189.out) | refine below_set ?_ GE175.out) | exact HB.out)⟩⟩
                        · replace c54 := Bool.eq_false_iff.mpr c54
                          subst c54
                          have H1 : (if t207 = true then ((suppress_Round_Echo.f t203 t204 t205 t206 1 a0_3).bind fun bt224 => (if bt224.1 = true then (terracelaw17_SuppressTwo.l0 kj44 (wrap64 (x9_3 + (wrap64 (t212 + t213)))) (wrap64 (x10_3 + 1)) (wrap64 (a0_4 + 1)) (wrap64 (x71_3 + 1)) a0_0 a0_1 a0_2 a0_3 a0_4 a0_5 bt224.2.1 bt224.2.2.1 bt224.2.2.2.1 bt224.2.2.2.2 x190000_44 x190001_44 x190002_44 x190003_44) else (terracelaw17_SuppressTwo.l0 kj44 (wrap64 (x9_3 + (wrap64 (t212 + t213)))) x10_3 (wrap64 (a0_4 + 1)) (wrap64 (x71_3 + 1)) a0_0 a0_1 a0_2 a0_3 a0_4 a0_5 bt224.2.1 bt224.2.2.1 bt224.2.2.2.1 bt224.2.2.2.2 x190000_44 x190001_44 x190002_44 x190003_44))) else (terracelaw17_SuppressTwo.l0 kj44 (wrap64 (x9_3 + (wrap64 (t212 + t213)))) x10_3 (wrap64 (a0_4 + 1)) (wrap64 (x71_3 + 1)) a0_0 a0_1 a0_2 a0_3 a0_4 a0_5 t203 t204 t205 t206 x190000_44 x190001_44 x190002_44 x190003_44)) = some r := by rw [if_neg (show ¬ (false = true) by decide)] at H; exact H
                          clear H
                          have H := H1
                          clear H1
                          by_cases c66 : t207 = true
                          · subst c66
                            have H1 : ((suppress_Round_Echo.f t203 t204 t205 t206 1 a0_3).bind fun bt224 => (if bt224.1 = true then (terracelaw17_SuppressTwo.l0 kj44 (wrap64 (x9_3 + (wrap64 (t212 + t213)))) (wrap64 (x10_3 + 1)) (wrap64 (a0_4 + 1)) (wrap64 (x71_3 + 1)) a0_0 a0_1 a0_2 a0_3 a0_4 a0_5 bt224.2.1 bt224.2.2.1 bt224.2.2.2.1 bt224.2.2.2.2 x190000_44 x190001_44 x190002_44 x190003_44) else (terracelaw17_SuppressTwo.l0 kj44 (wrap64 (x9_3 + (wrap64 (t212 + t213)))) x10_3 (wrap64 (a0_4 + 1)) (wrap64 (x71_3 + 1)) a0_0 a0_1 a0_2 a0_3 a0_4 a0_5 bt224.2.1 bt224.2.2.1 bt224.2.2.2.1 bt224.2.2.2.2 x190000_44 x190001_44 x190002_44 x190003_44))) = some r := by rw [if_pos rfl] at H; exact H
                            clear H
                            have H := H1
                            clear H1
                            replace H := Option.bind_eq_some_iff.mp H
                            obtain ⟨⟨t224, t225, t226, t227, t228⟩, A670, H⟩ := H
                            replace H : (if t224 = true then (terracelaw17_SuppressTwo.l0 kj44 (wrap64 (x9_3 + (wrap64 (t212 + t213)))) (wrap64 (x10_3 + 1)) (wrap64 (a0_4 + 1)) (wrap64 (x71_3 + 1)) a0_0 a0_1 a0_2 a0_3 a0_4 a0_5 t225 t226 t227 t228 x190000_44 x190001_44 x190002_44 x190003_44) else (terracelaw17_SuppressTwo.l0 kj44 (wrap64 (x9_3 + (wrap64 (t212 + t213)))) x10_3 (wrap64 (a0_4 + 1)) (wrap64 (x71_3 + 1)) a0_0 a0_1 a0_2 a0_3 a0_4 a0_5 t225 t226 t227 t228 x190000_44 x190001_44 x190002_44 x190003_44)) = some r := H
                            have A67 := Aside0.mk A670
                            clear A670
                            by_cases c68 : t224 = true
                            · subst c68
                              have H1 : (terracelaw17_SuppressTwo.l0 kj44 (wrap64 (x9_3 + (wrap64 (t212 + t213)))) (wrap64 (x10_3 + 1)) (wrap64 (a0_4 + 1)) (wrap64 (x71_3 + 1)) a0_0 a0_1 a0_2 a0_3 a0_4 a0_5 t225 t226 t227 t228 x190000_44 x190001_44 x190002_44 x190003_44) = some r := by rw [if_pos rfl] at H; exact H
                              clear H
                              have H := H1
                              clear H1
                              have H' := Aside0.mk H
                              clear H
                              have hnb69 := NB175_184.out
                              have hnc69 := NB184_175.out
                              have hnb70 := NB175_189.out
                              have hnc70 := NB189_175.out
                              have hcz71_0 : wc.cell? ⟨gb175, 0, none⟩ = some (.int .u64 a0_0) := (blk_cell BK175.out 0).trans rfl
                              have hcz71_1 : wc.cell? ⟨gb175, 1, none⟩ = some (.int .u64 a0_1) := (blk_cell BK175.out 1).trans rfl
                              have hcz71_2 : wc.cell? ⟨gb175, 2, none⟩ = some (.int .u64 a0_2) := (blk_cell BK175.out 2).trans rfl
                              have hcz71_3 : wc.cell? ⟨gb175, 3, none⟩ = some (.int .u64 a0_3) := (blk_cell BK175.out 3).trans rfl
                              have hcz71_4 : wc.cell? ⟨gb175, 4, none⟩ = some (.int .i64 a0_4) := (blk_cell BK175.out 4).trans rfl
                              have hcz71_5 : wc.cell? ⟨gb175, 5, none⟩ = some (.int .i64 a0_5) := (blk_cell BK175.out 5).trans rfl
                              have hfz71_0 := blk_frozen BK175.out 0
                              have hfz71_1 := blk_frozen BK175.out 1
                              have hfz71_2 := blk_frozen BK175.out 2
                              have hfz71_3 := blk_frozen BK175.out 3
                              have hfz71_4 := blk_frozen BK175.out 4
                              have hfz71_5 := blk_frozen BK175.out 5
                              go_wp2_with (first | (go_at_call 15; (with_reducible refine (suppress_Round_Echo.calls g184 t203 t204 t205 t206 1 a0_3 true t225 t226 t227 t228 w _ ?side1 ?side2 A67.out).mono ?_); (case side1 => repeat (first | (with_reducible first | exact HI184.out | apply IsS61.alloc | apply IsS61.drewN | apply IsS61.drew | apply IsS61.set_0 | apply IsS61.set_1 | apply IsS61.set_2 | apply IsS61.set_3 | refine IsS61.far ?_ NB184_175.out _) | exact HI184.out)); (case side2 => repeat (first | (with_reducible first | exact HB.out | apply below_alloc | apply pw_below_drewN | apply below_drew1 | refine below_set ?_ (IsS61.ge HI184.out) | refine below_set ?_ (IsS61.ge HI189.out) | refine below_set ?_ GE175.out) | exact HB.out)); rintro e w72 ⟨rfl, hi, hb, hk⟩; have n0_ := Aside0.mk (KeepBut.blk hk (g' := gb175) (o := .cells #[.int .u64 a0_0, .int .u64 a0_1, .int .u64 a0_2, .int .u64 a0_3, .int .i64 a0_4, .int .i64 a0_5] 34 (0, 0)) (by (with_reducible repeat (first | refine blk_drewN ?_ _ | refine blk_drew ?_ | refine blk_alloc ?_ _)); exact BK175.out) NB175_184.out (by simp)); have n1_ := Aside0.mk ((show IsS61 w _ g189 x190000_44 x190001_44 x190002_44 x190003_44 from ⟨KeepBut.blk hk (show IsS61 w _ g189 x190000_44 x190001_44 x190002_44 x190003_44 from by repeat (first | (with_reducible first | exact HI189.out | apply IsS61.alloc | apply IsS61.drewN | apply IsS61.drew | apply IsS61.set_0 | apply IsS61.set_1 | apply IsS61.set_2 | apply IsS61.set_3 | refine IsS61.far ?_ NB189_175.out _) | exact HI189.out)).1 NB189_184.out (by simp), (show IsS61 w _ g189 x190000_44 x190001_44 x190002_44 x190003_44 from by repeat (first | (with_reducible first | exact HI189.out | apply IsS61.alloc | apply IsS61.drewN | apply IsS61.drew | apply IsS61.set_0 | apply IsS61.set_1 | apply IsS61.set_2 | apply IsS61.set_3 | refine IsS61.far ?_ NB189_175.out _) | exact HI189.out)).2⟩)); have n2_ := Aside0.mk (hb); have n3_ := Aside0.mk (hi); clear BK175; clear HI189; clear HB; clear HI184; have BK175 := n0_; have HI189 := n1_; have HB := n2_; have HI184 := n3_; clear n0_ n1_ n2_ n3_; (try clear hb); (try clear hb2); (try clear hk); (try clear hi)))
                              go_roundg kj44
                              case measure => have := HJ5.out; have := HJ21.out; have := HK3.out; have := HJ44.out; omega
                              case rel => exact ⟨((wrap64 (x9_3 + (wrap64 (t212 + t213))))), (wrap64 (x10_3 + 1)), (wrap64 (x71_3 + 1)), (t225), (t226), (t227), (t228), (x190000_44), (x190001_44), (x190002_44), (x190003_44), (by first | rfl | (simp; done) | (simp [*]; done)), (by first | rfl | (simp; done) | (simp [*]; done)), (by first | rfl | (simp; done) | (simp [*]; done)), H', ⟨by have := HJ5.out; have := HJ21.out; have := HK3.out; have := HJ44.out; omega⟩, ⟨by (with_reducible repeat (first | refine blk_drewN ?_ _ | refine blk_drew ?_ | refine blk_alloc ?_ _)); exact BK175.out⟩, ⟨by repeat (first | (with_reducible first | exact HI184.out | apply IsS61.alloc | apply IsS61.drewN | apply IsS61.drew | apply IsS61.set_0 | apply IsS61.set_1 | apply IsS61.set_2 | apply IsS61.set_3 | refine IsS61.far ?_ NB184_175.out _) | exact HI184.out)⟩, ⟨by repeat (first | (with_reducible first | exact HI189.out | apply IsS61.alloc | apply IsS61.drewN | apply IsS61.drew | apply IsS61.set_0 | apply IsS61.set_1 | apply IsS61.set_2 | apply IsS61.set_3 | refine IsS61.far ?_ NB189_175.out _) | exact HI189.out)⟩, ⟨by repeat (first | (with_reducible first | exact HB.out | apply below_alloc | apply pw_below_drewN | apply below_drew1 | refine below_set ?_ (IsS61.ge HI184.out) | refine below_set ?_ (IsS61.ge HI189.out) | refine below_set ?_ GE175.out) | exact HB.out)⟩⟩
                            · replace c68 := Bool.eq_false_iff.mpr c68
                              subst c68
                              have H1 : (terracelaw17_SuppressTwo.l0 kj44 (wrap64 (x9_3 + (wrap64 (t212 + t213)))) x10_3 (wrap64 (a0_4 + 1)) (wrap64 (x71_3 + 1)) a0_0 a0_1 a0_2 a0_3 a0_4 a0_5 t225 t226 t227 t228 x190000_44 x190001_44 x190002_44 x190003_44) = some r := by rw [if_neg (show ¬ (false = true) by decide)] at H; exact H
                              clear H
                              have H := H1
                              clear H1
                              have H' := Aside0.mk H
                              clear H
                              have hnb73 := NB175_184.out
                              have hnc73 := NB184_175.out
                              have hnb74 := NB175_189.out
                              have hnc74 := NB189_175.out
                              have hcz75_0 : wc.cell? ⟨gb175, 0, none⟩ = some (.int .u64 a0_0) := (blk_cell BK175.out 0).trans rfl
                              have hcz75_1 : wc.cell? ⟨gb175, 1, none⟩ = some (.int .u64 a0_1) := (blk_cell BK175.out 1).trans rfl
                              have hcz75_2 : wc.cell? ⟨gb175, 2, none⟩ = some (.int .u64 a0_2) := (blk_cell BK175.out 2).trans rfl
                              have hcz75_3 : wc.cell? ⟨gb175, 3, none⟩ = some (.int .u64 a0_3) := (blk_cell BK175.out 3).trans rfl
                              have hcz75_4 : wc.cell? ⟨gb175, 4, none⟩ = some (.int .i64 a0_4) := (blk_cell BK175.out 4).trans rfl
                              have hcz75_5 : wc.cell? ⟨gb175, 5, none⟩ = some (.int .i64 a0_5) := (blk_cell BK175.out 5).trans rfl
                              have hfz75_0 := blk_frozen BK175.out 0
                              have hfz75_1 := blk_frozen BK175.out 1
                              have hfz75_2 := blk_frozen BK175.out 2
                              have hfz75_3 := blk_frozen BK175.out 3
                              have hfz75_4 := blk_frozen BK175.out 4
                              have hfz75_5 := blk_frozen BK175.out 5
                              go_wp2_with (first | (go_at_call 15; (with_reducible refine (suppress_Round_Echo.calls g184 t203 t204 t205 t206 1 a0_3 false t225 t226 t227 t228 w _ ?side1 ?side2 A67.out).mono ?_); (case side1 => repeat (first | (with_reducible first | exact HI184.out | apply IsS61.alloc | apply IsS61.drewN | apply IsS61.drew | apply IsS61.set_0 | apply IsS61.set_1 | apply IsS61.set_2 | apply IsS61.set_3 | refine IsS61.far ?_ NB184_175.out _) | exact HI184.out)); (case side2 => repeat (first | (with_reducible first | exact HB.out | apply below_alloc | apply pw_below_drewN | apply below_drew1 | refine below_set ?_ (IsS61.ge HI184.out) | refine below_set ?_ (IsS61.ge HI189.out) | refine below_set ?_ GE175.out) | exact HB.out)); rintro e w76 ⟨rfl, hi, hb, hk⟩; have n0_ := Aside0.mk (KeepBut.blk hk (g' := gb175) (o := .cells #[.int .u64 a0_0, .int .u64 a0_1, .int .u64 a0_2, .int .u64 a0_3, .int .i64 a0_4, .int .i64 a0_5] 34 (0, 0)) (by (with_reducible repeat (first | refine blk_drewN ?_ _ | refine blk_drew ?_ | refine blk_alloc ?_ _)); exact BK175.out) NB175_184.out (by simp)); have n1_ := Aside0.mk ((show IsS61 w _ g189 x190000_44 x190001_44 x190002_44 x190003_44 from ⟨KeepBut.blk hk (show IsS61 w _ g189 x190000_44 x190001_44 x190002_44 x190003_44 from by repeat (first | (with_reducible first | exact HI189.out | apply IsS61.alloc | apply IsS61.drewN | apply IsS61.drew | apply IsS61.set_0 | apply IsS61.set_1 | apply IsS61.set_2 | apply IsS61.set_3 | refine IsS61.far ?_ NB189_175.out _) | exact HI189.out)).1 NB189_184.out (by simp), (show IsS61 w _ g189 x190000_44 x190001_44 x190002_44 x190003_44 from by repeat (first | (with_reducible first | exact HI189.out | apply IsS61.alloc | apply IsS61.drewN | apply IsS61.drew | apply IsS61.set_0 | apply IsS61.set_1 | apply IsS61.set_2 | apply IsS61.set_3 | refine IsS61.far ?_ NB189_175.out _) | exact HI189.out)).2⟩)); have n2_ := Aside0.mk (hb); have n3_ := Aside0.mk (hi); clear BK175; clear HI189; clear HB; clear HI184; have BK175 := n0_; have HI189 := n1_; have HB := n2_; have HI184 := n3_; clear n0_ n1_ n2_ n3_; (try clear hb); (try clear hb2); (try clear hk); (try clear hi)))
                              go_roundg kj44
                              case measure => have := HJ5.out; have := HJ21.out; have := HK3.out; have := HJ44.out; omega
                              case rel => exact ⟨((wrap64 (x9_3 + (wrap64 (t212 + t213))))), (x10_3), (wrap64 (x71_3 + 1)), (t225), (t226), (t227), (t228), (x190000_44), (x190001_44), (x190002_44), (x190003_44), (by first | rfl | (simp; done) | (simp [*]; done)), (by first | rfl | (simp; done) | (simp [*]; done)), (by first | rfl | (simp; done) | (simp [*]; done)), H', ⟨by have := HJ5.out; have := HJ21.out; have := HK3.out; have := HJ44.out; omega⟩, ⟨by (with_reducible repeat (first | refine blk_drewN ?_ _ | refine blk_drew ?_ | refine blk_alloc ?_ _)); exact BK175.out⟩, ⟨by repeat (first | (with_reducible first | exact HI184.out | apply IsS61.alloc | apply IsS61.drewN | apply IsS61.drew | apply IsS61.set_0 | apply IsS61.set_1 | apply IsS61.set_2 | apply IsS61.set_3 | refine IsS61.far ?_ NB184_175.out _) | exact HI184.out)⟩, ⟨by repeat (first | (with_reducible first | exact HI189.out | apply IsS61.alloc | apply IsS61.drewN | apply IsS61.drew | apply IsS61.set_0 | apply IsS61.set_1 | apply IsS61.set_2 | apply IsS61.set_3 | refine IsS61.far ?_ NB189_175.out _) | exact HI189.out)⟩, ⟨by repeat (first | (with_reducible first | exact HB.out | apply below_alloc | apply pw_below_drewN | apply below_drew1 | refine below_set ?_ (IsS61.ge HI184.out) | refine below_set ?_ (IsS61.ge HI189.out) | refine below_set ?_ GE175.out) | exact HB.out)⟩⟩
                          · replace c66 := Bool.eq_false_iff.mpr c66
                            subst c66
                            have H1 : (terracelaw17_SuppressTwo.l0 kj44 (wrap64 (x9_3 + (wrap64 (t212 + t213)))) x10_3 (wrap64 (a0_4 + 1)) (wrap64 (x71_3 + 1)) a0_0 a0_1 a0_2 a0_3 a0_4 a0_5 t203 t204 t205 t206 x190000_44 x190001_44 x190002_44 x190003_44) = some r := by rw [if_neg (show ¬ (false = true) by decide)] at H; exact H
                            clear H
                            have H := H1
                            clear H1
                            have H' := Aside0.mk H
                            clear H
                            go_wp2
                            go_roundg kj44
                            case measure => have := HJ5.out; have := HJ21.out; have := HK3.out; have := HJ44.out; omega
                            case rel => exact ⟨((wrap64 (x9_3 + (wrap64 (t212 + t213))))), (x10_3), (wrap64 (x71_3 + 1)), (t203), (t204), (t205), (t206), (x190000_44), (x190001_44), (x190002_44), (x190003_44), (by first | rfl | (simp; done) | (simp [*]; done)), (by first | rfl | (simp; done) | (simp [*]; done)), (by first | rfl | (simp; done) | (simp [*]; done)), H', ⟨by have := HJ5.out; have := HJ21.out; have := HK3.out; have := HJ44.out; omega⟩, ⟨by (with_reducible repeat (first | refine blk_drewN ?_ _ | refine blk_drew ?_ | refine blk_alloc ?_ _)); exact BK175.out⟩, ⟨by repeat (first | (with_reducible first | exact HI184.out | apply IsS61.alloc | apply IsS61.drewN | apply IsS61.drew | apply IsS61.set_0 | apply IsS61.set_1 | apply IsS61.set_2 | apply IsS61.set_3 | refine IsS61.far ?_ NB184_175.out _) | exact HI184.out)⟩, ⟨by repeat (first | (with_reducible first | exact HI189.out | apply IsS61.alloc | apply IsS61.drewN | apply IsS61.drew | apply IsS61.set_0 | apply IsS61.set_1 | apply IsS61.set_2 | apply IsS61.set_3 | refine IsS61.far ?_ NB189_175.out _) | exact HI189.out)⟩, ⟨by repeat (first | (with_reducible first | exact HB.out | apply below_alloc | apply pw_below_drewN | apply below_drew1 | refine below_set ?_ (IsS61.ge HI184.out) | refine below_set ?_ (IsS61.ge HI189.out) | refine below_set ?_ GE175.out) | exact HB.out)⟩⟩
                  · rw [if_neg c40] at H
                    have c40b0 : decide (x71_3 < (wrap64 (a0_4 + 1))) = false := decide_eq_false c40
                    clear c40
                    by_cases c77 : x9_3 ≥ 1
                    · rw [if_pos c77] at H
                      have c77b0 : decide (1 ≤ x9_3) = true := decide_eq_true c77
                      clear c77
                      by_cases c78 : (wrap64 (x9_3 + x10_3)) = 2
                      · rw [if_pos c78] at H
                        have c78b0 : ((wrap64 (x9_3 + x10_3)) == 2) = true := beq_iff_eq.mpr c78
                        have c78b1 : ((wrap64 (x9_3 + x10_3)) != 2) = false := bne_eq_false_iff_eq.mpr c78
                        clear c78
                        replace H := Option.bind_eq_some_iff.mp H
                        obtain ⟨t201, A790, H⟩ := H
                        replace H : (some t201) = some r := H
                        have A79 := Aside0.mk A790
                        clear A790
                        obtain rfl := Option.some.inj H
                        go_wp2_with (first | (go_at_call 9; (with_reducible refine (terracelaw17_awake.calls k3  t201 _ A79.out).mono ?_); rintro e w80 ⟨rfl, hb⟩; have n0_ := Aside0.mk (blk_below (g := gb175) (o := .cells #[.int .u64 a0_0, .int .u64 a0_1, .int .u64 a0_2, .int .u64 a0_3, .int .i64 a0_4, .int .i64 a0_5] 34 (0, 0)) (by (with_reducible repeat (first | refine blk_drewN ?_ _ | refine blk_drew ?_ | refine blk_alloc ?_ _)); exact BK175.out) hb); have n1_ := Aside0.mk (IsS61.below (by repeat (first | (with_reducible first | exact HI184.out | apply IsS61.alloc | apply IsS61.drewN | apply IsS61.drew | apply IsS61.set_0 | apply IsS61.set_1 | apply IsS61.set_2 | apply IsS61.set_3 | refine IsS61.far ?_ NB184_175.out _) | exact HI184.out)) hb); have n2_ := Aside0.mk (IsS61.below (by repeat (first | (with_reducible first | exact HI189.out | apply IsS61.alloc | apply IsS61.drewN | apply IsS61.drew | apply IsS61.set_0 | apply IsS61.set_1 | apply IsS61.set_2 | apply IsS61.set_3 | refine IsS61.far ?_ NB189_175.out _) | exact HI189.out)) hb); have n3_ := Aside0.mk (below_step (by repeat (first | (with_reducible first | exact HB.out | apply below_alloc | apply pw_below_drewN | apply below_drew1 | refine below_set ?_ (IsS61.ge HI184.out) | refine below_set ?_ (IsS61.ge HI189.out) | refine below_set ?_ GE175.out) | exact HB.out)) hb); clear BK175; clear HI184; clear HI189; clear HB; have BK175 := n0_; have HI184 := n1_; have HI189 := n2_; have HB := n3_; clear n0_ n1_ n2_ n3_; (try clear hb); (try clear hb2); (try clear hk); (try clear hi)))
                        go_ret
                        exact ⟨by first | rfl | (simp [errW_none, errW_some] <;> rfl) | (simp [*, errW_none, errW_some] <;> rfl), by repeat (first | (with_reducible first | exact HB.out | apply below_alloc | apply pw_below_drewN | apply below_drew1 | refine below_set ?_ (IsS61.ge HI184.out) | refine below_set ?_ (IsS61.ge HI189.out) | refine below_set ?_ GE175.out) | exact HB.out)⟩
                      · rw [if_neg c78] at H
                        have c78b0 : ((wrap64 (x9_3 + x10_3)) == 2) = false := beq_eq_false_iff_ne.mpr c78
                        have c78b1 : ((wrap64 (x9_3 + x10_3)) != 2) = true := bne_iff_ne.mpr c78
                        obtain rfl := Option.some.inj H
                        go_wp2
                        go_ret
                        exact ⟨by first | rfl | (simp [errW_none, errW_some] <;> rfl) | (simp [*, errW_none, errW_some] <;> rfl), by repeat (first | (with_reducible first | exact HB.out | apply below_alloc | apply pw_below_drewN | apply below_drew1 | refine below_set ?_ (IsS61.ge HI184.out) | refine below_set ?_ (IsS61.ge HI189.out) | refine below_set ?_ GE175.out) | exact HB.out)⟩
                    · rw [if_neg c77] at H
                      have c77b0 : decide (1 ≤ x9_3) = false := decide_eq_false c77
                      clear c77
                      obtain rfl := Option.some.inj H
                      go_wp2
                      go_ret
                      exact ⟨by first | rfl | (simp [errW_none, errW_some] <;> rfl) | (simp [*, errW_none, errW_some] <;> rfl), by repeat (first | (with_reducible first | exact HB.out | apply below_alloc | apply pw_below_drewN | apply below_drew1 | refine below_set ?_ (IsS61.ge HI184.out) | refine below_set ?_ (IsS61.ge HI189.out) | refine below_set ?_ GE175.out) | exact HB.out)⟩

/-- THE ONE PURE STATEMENT of terracelaw17_SuppressTwo. -/
def terracelaw17_SuppressTwo.Pure : Prop := ∀ (a0_0 : Int) (a0_1 : Int) (a0_2 : Int) (a0_3 : Int) (a0_4 : Int) (a0_5 : Int), (Lit.int .u64 a0_0).wf = true → (Lit.int .u64 a0_1).wf = true → (Lit.int .u64 a0_2).wf = true → (Lit.int .u64 a0_3).wf = true → (Lit.int .i64 a0_4).wf = true → (Lit.int .i64 a0_5).wf = true → ∃ k, terracelaw17_SuppressTwo.f k a0_0 a0_1 a0_2 a0_3 a0_4 a0_5 = some true

end Go.Proofs.Ytejminfpgnlpkaa.PSuppressTwo
