-- Written by ext.sh (the session's own program, over the kit's printer) out of the translation. Lean checks it.
import Derived.Test.YtknkpnommhdhlaaPSpeedBoundsx0
import Derived.Test.YtknkpnommhdhlaaPSpeedBoundsx1
import Derived.Test.YtknkpnommhdhlaaPSpeedBoundsx2
import Derived.Test.YtknkpnommhdhlaaPSpeedBoundsx3
namespace Go.Proofs.Ytknkpnommhdhlaa.PSpeedBounds
open Go.RowKit Go.Proofs.YtknkpnommhdhlaaW.PrintWords Go.Proofs.YtknkpnommhdhlaaW.PrintLast Go.Proofs.YtknkpnommhdhlaaW.PrintMore
attribute [local go_sem] max2_int min2_int max_two min_two max_three min_three max_four min_four   -- for this text's walks alone
set_option linter.unusedVariables false
set_option linter.unusedSimpArgs false

/-! ### terracelaw19_SpeedBounds: function 4 -/
mutual
def terracelaw19_SpeedBounds.j0 : Nat → Int → List (S38) → Int → Bool → Int → Int → Option (Bool)
  | 0, _, _, _, _, _, _ => none
  | k + 1, x0, x2, x8, x28, x167000, x167001 => if x28 = true then ((terracelaw19_awake.f k).bind fun t168 => (some t168)) else (if x8 = 0 then (terracelaw19_SpeedBounds.j1 k x0 x2 false x167000 x167001) else (terracelaw19_SpeedBounds.j1 k x0 x2 true x167000 x167001))
def terracelaw19_SpeedBounds.j1 : Nat → Int → List (S38) → Bool → Int → Int → Option (Bool)
  | 0, _, _, _, _, _ => none
  | k + 1, x0, x2, x35, x167000, x167001 => if x35 = true then (some false) else (terracelaw19_SpeedBounds.l0 k x0 x2 (x2.length : Int) 0 x167000 x167001)
def terracelaw19_SpeedBounds.l0 : Nat → Int → List (S38) → Int → Int → Int → Int → Option (Bool)
  | 0, _, _, _, _, _, _ => none
  | k + 1, x0, x36, x37, x38, x167000, x167001 => if x38 < x37 then (if 0 ≤ x38 then (if x38 < (x36.length : Int) then ((speed_Speed_Rate.f x167000 x167001).bind fun bt172 => (if ((rd_T38 x36 x38).f0) = 1 then ((speed_Speed_Held.f k bt172.2.1 bt172.2.2 ((rd_T38 x36 x38).f3) ((rd_T38 x36 x38).f1) ((rd_T38 x36 x38).f2)).bind fun bt175 => (if bt175.1 = 0 then ((speed_Speed_Rate.f bt175.2.1 bt175.2.2).bind fun bt178 => (if bt178.1 > (mx ((rd_T38 x36 x38).f3) x0) then (terracelaw19_SpeedBounds.j3 k x0 x36 x37 x38 true bt178.2.1 bt178.2.2) else ((speed_Speed_Rate.f bt178.2.1 bt178.2.2).bind fun bt181 => ((fix_Ratio.f k (IntKind.u64.wrap ((rd_T38 x36 x38).f1)) (IntKind.u64.wrap ((rd_T38 x36 x38).f2))).bind fun t184 => ((fix_F_Add.f bt172.1 t184).bind fun t185 => (terracelaw19_SpeedBounds.j3 k x0 x36 x37 x38 (decide (bt181.1 > (mx t185 x0))) bt181.2.1 bt181.2.2)))))) else (terracelaw19_SpeedBounds.j3 k x0 x36 x37 x38 false bt175.2.1 bt175.2.2))) else (if ((rd_T38 x36 x38).f0) = 2 then ((speed_Speed_Free.f bt172.2.1 bt172.2.2 ((rd_T38 x36 x38).f3) (((rd_T38 x36 x38).f1) != 0)).bind fun bt186 => ((speed_Speed_Rate.f bt186.1 bt186.2).bind fun bt188 => ((fix_F_Add.f bt172.1 bt172.1).bind fun t191 => (if bt188.1 > t191 then (terracelaw19_SpeedBounds.j4 k x0 x36 x37 x38 true bt188.2.1 bt188.2.2) else (if ((rd_T38 x36 x38).f1) = 0 then ((speed_Speed_Rate.f bt188.2.1 bt188.2.2).bind fun bt192 => (terracelaw19_SpeedBounds.j4 k x0 x36 x37 x38 (bt192.1 != bt172.1) bt192.2.1 bt192.2.2)) else ((speed_Speed_Rate.f bt188.2.1 bt188.2.2).bind fun bt195 => ((fix_F_Add.f ((rd_T38 x36 x38).f3) ((rd_T38 x36 x38).f3)).bind fun t198 => (if bt195.1 > (mx t198 x0) then (terracelaw19_SpeedBounds.j4 k x0 x36 x37 x38 true bt195.2.1 bt195.2.2) else (terracelaw19_SpeedBounds.j4 k x0 x36 x37 x38 false bt195.2.1 bt195.2.2))))))))) else (if ((rd_T38 x36 x38).f0) = 3 then ((speed_Speed_Left.f bt172.2.1 bt172.2.2).bind fun bt199 => ((speed_Speed_Rate.f bt199.1 bt199.2).bind fun bt201 => (if bt201.1 > bt172.1 then (some false) else (terracelaw19_SpeedBounds.l0 k x0 x36 x37 (wrap64 (x38 + 1)) bt201.2.1 bt201.2.2)))) else (terracelaw19_SpeedBounds.l0 k x0 x36 x37 (wrap64 (x38 + 1)) bt172.2.1 bt172.2.2))))) else (none)) else (none)) else ((terracelaw19_awake.f k).bind fun t169 => (some t169))
def terracelaw19_SpeedBounds.j3 : Nat → Int → List (S38) → Int → Int → Bool → Int → Int → Option (Bool)
  | 0, _, _, _, _, _, _, _ => none
  | k + 1, x0, x36, x37, x38, x81, x167000, x167001 => if x81 = true then (some false) else (terracelaw19_SpeedBounds.l0 k x0 x36 x37 (wrap64 (x38 + 1)) x167000 x167001)
def terracelaw19_SpeedBounds.j4 : Nat → Int → List (S38) → Int → Int → Bool → Int → Int → Option (Bool)
  | 0, _, _, _, _, _, _, _ => none
  | k + 1, x0, x36, x37, x38, x124, x167000, x167001 => if x124 = true then (some false) else (terracelaw19_SpeedBounds.l0 k x0 x36 x37 (wrap64 (x38 + 1)) x167000 x167001)
def terracelaw19_SpeedBounds.j5 : Nat → Int → Bool → Option (Bool)
  | 0, _, _ => none
  | k + 1, x8, x28 => if x28 = true then ((terracelaw19_awake.f k).bind fun t205 => (some t205)) else (if x8 = 0 then (terracelaw19_SpeedBounds.j6 k true) else (terracelaw19_SpeedBounds.j6 k true))
def terracelaw19_SpeedBounds.j6 : Nat → Bool → Option (Bool)
  | 0, _ => none
  | k + 1, x35 => if x35 = true then (some false) else (none)
end
def terracelaw19_SpeedBounds.f (k : Nat) (a0 : Int) (a1 : Int) (l2 : List (S38)) : Option (Bool) := if (l2.length : Int) > 100 then ((terracelaw19_awake.f k).bind fun t163 => (some t163)) else (if speed_New.ok a0 a1 = true then ((speed_New.f a0 a1).bind fun bt164 => (if a0 = 0 then (terracelaw19_SpeedBounds.j0 k a0 l2 bt164.2.2 true bt164.1 bt164.2.1) else (terracelaw19_SpeedBounds.j0 k a0 l2 bt164.2.2 (decide (a1 < a0)) bt164.1 bt164.2.1))) else ((speed_New_no.f a0 a1).bind fun t204 => (if a0 = 0 then (terracelaw19_SpeedBounds.j5 k t204 true) else (terracelaw19_SpeedBounds.j5 k t204 (decide (a1 < a0))))))
theorem terracelaw19_SpeedBounds.mono_l : ∀ k, (∀ y0 y1 y2 y3 y4 y5, LeO (terracelaw19_SpeedBounds.j0 k y0 y1 y2 y3 y4 y5) (terracelaw19_SpeedBounds.j0 (k + 1) y0 y1 y2 y3 y4 y5)) ∧ (∀ y0 y1 y2 y3 y4, LeO (terracelaw19_SpeedBounds.j1 k y0 y1 y2 y3 y4) (terracelaw19_SpeedBounds.j1 (k + 1) y0 y1 y2 y3 y4)) ∧ (∀ y0 y1 y2 y3 y4 y5, LeO (terracelaw19_SpeedBounds.l0 k y0 y1 y2 y3 y4 y5) (terracelaw19_SpeedBounds.l0 (k + 1) y0 y1 y2 y3 y4 y5)) ∧ (∀ y0 y1 y2 y3 y4 y5 y6, LeO (terracelaw19_SpeedBounds.j3 k y0 y1 y2 y3 y4 y5 y6) (terracelaw19_SpeedBounds.j3 (k + 1) y0 y1 y2 y3 y4 y5 y6)) ∧ (∀ y0 y1 y2 y3 y4 y5 y6, LeO (terracelaw19_SpeedBounds.j4 k y0 y1 y2 y3 y4 y5 y6) (terracelaw19_SpeedBounds.j4 (k + 1) y0 y1 y2 y3 y4 y5 y6)) ∧ (∀ y0 y1, LeO (terracelaw19_SpeedBounds.j5 k y0 y1) (terracelaw19_SpeedBounds.j5 (k + 1) y0 y1)) ∧ (∀ y0, LeO (terracelaw19_SpeedBounds.j6 k y0) (terracelaw19_SpeedBounds.j6 (k + 1) y0))
  | 0 => ⟨fun _ _ _ _ _ _ r h => by simp [terracelaw19_SpeedBounds.j0] at h, fun _ _ _ _ _ r h => by simp [terracelaw19_SpeedBounds.j1] at h, fun _ _ _ _ _ _ r h => by simp [terracelaw19_SpeedBounds.l0] at h, fun _ _ _ _ _ _ _ r h => by simp [terracelaw19_SpeedBounds.j3] at h, fun _ _ _ _ _ _ _ r h => by simp [terracelaw19_SpeedBounds.j4] at h, fun _ _ r h => by simp [terracelaw19_SpeedBounds.j5] at h, fun _ r h => by simp [terracelaw19_SpeedBounds.j6] at h⟩
  | k + 1 => by
    obtain ⟨ih0, ih1, ih2, ih3, ih4, ih5, ih6⟩ := terracelaw19_SpeedBounds.mono_l k
    refine ⟨?_, ?_, ?_, ?_, ?_, ?_, ?_⟩
    · intro y0 y1 y2 y3 y4 y5
      unfold terracelaw19_SpeedBounds.j0
      repeat' first
      | (with_reducible exact ih0 _ _ _ _ _ _)
      | (with_reducible exact ih1 _ _ _ _ _)
      | (with_reducible exact ih2 _ _ _ _ _ _)
      | (with_reducible exact ih3 _ _ _ _ _ _ _)
      | (with_reducible exact ih4 _ _ _ _ _ _ _)
      | (with_reducible exact ih5 _ _)
      | (with_reducible exact ih6 _)
      | (with_reducible exact fix_Ratio.mono _ _ _)
      | (with_reducible exact speed_Speed_Held.mono _ _ _ _ _ _)
      | (with_reducible exact terracelaw19_awake.mono _)
      | (with_reducible exact LeO.refl _)
      | (with_reducible exact LeO.none _)
      | (with_reducible refine LeO.ite ?_ ?_)
      | (with_reducible refine LeO.bind ?_ (fun _ => ?_))
      | exact ih0 _ _ _ _ _ _
      | exact ih1 _ _ _ _ _
      | exact ih2 _ _ _ _ _ _
      | exact ih3 _ _ _ _ _ _ _
      | exact ih4 _ _ _ _ _ _ _
      | exact ih5 _ _
      | exact ih6 _
      | exact fix_Ratio.mono _ _ _
      | exact speed_Speed_Held.mono _ _ _ _ _ _
      | exact terracelaw19_awake.mono _
      | exact LeO.none _
      | refine LeO.ite ?_ ?_
      | refine LeO.bind ?_ (fun _ => ?_)
    · intro y0 y1 y2 y3 y4
      unfold terracelaw19_SpeedBounds.j1
      repeat' first
      | (with_reducible exact ih0 _ _ _ _ _ _)
      | (with_reducible exact ih1 _ _ _ _ _)
      | (with_reducible exact ih2 _ _ _ _ _ _)
      | (with_reducible exact ih3 _ _ _ _ _ _ _)
      | (with_reducible exact ih4 _ _ _ _ _ _ _)
      | (with_reducible exact ih5 _ _)
      | (with_reducible exact ih6 _)
      | (with_reducible exact fix_Ratio.mono _ _ _)
      | (with_reducible exact speed_Speed_Held.mono _ _ _ _ _ _)
      | (with_reducible exact terracelaw19_awake.mono _)
      | (with_reducible exact LeO.refl _)
      | (with_reducible exact LeO.none _)
      | (with_reducible refine LeO.ite ?_ ?_)
      | (with_reducible refine LeO.bind ?_ (fun _ => ?_))
      | exact ih0 _ _ _ _ _ _
      | exact ih1 _ _ _ _ _
      | exact ih2 _ _ _ _ _ _
      | exact ih3 _ _ _ _ _ _ _
      | exact ih4 _ _ _ _ _ _ _
      | exact ih5 _ _
      | exact ih6 _
      | exact fix_Ratio.mono _ _ _
      | exact speed_Speed_Held.mono _ _ _ _ _ _
      | exact terracelaw19_awake.mono _
      | exact LeO.none _
      | refine LeO.ite ?_ ?_
      | refine LeO.bind ?_ (fun _ => ?_)
    · intro y0 y1 y2 y3 y4 y5
      unfold terracelaw19_SpeedBounds.l0
      repeat' first
      | (with_reducible exact ih0 _ _ _ _ _ _)
      | (with_reducible exact ih1 _ _ _ _ _)
      | (with_reducible exact ih2 _ _ _ _ _ _)
      | (with_reducible exact ih3 _ _ _ _ _ _ _)
      | (with_reducible exact ih4 _ _ _ _ _ _ _)
      | (with_reducible exact ih5 _ _)
      | (with_reducible exact ih6 _)
      | (with_reducible exact fix_Ratio.mono _ _ _)
      | (with_reducible exact speed_Speed_Held.mono _ _ _ _ _ _)
      | (with_reducible exact terracelaw19_awake.mono _)
      | (with_reducible exact LeO.refl _)
      | (with_reducible exact LeO.none _)
      | (with_reducible refine LeO.ite ?_ ?_)
      | (with_reducible refine LeO.bind ?_ (fun _ => ?_))
      | exact ih0 _ _ _ _ _ _
      | exact ih1 _ _ _ _ _
      | exact ih2 _ _ _ _ _ _
      | exact ih3 _ _ _ _ _ _ _
      | exact ih4 _ _ _ _ _ _ _
      | exact ih5 _ _
      | exact ih6 _
      | exact fix_Ratio.mono _ _ _
      | exact speed_Speed_Held.mono _ _ _ _ _ _
      | exact terracelaw19_awake.mono _
      | exact LeO.none _
      | refine LeO.ite ?_ ?_
      | refine LeO.bind ?_ (fun _ => ?_)
    · intro y0 y1 y2 y3 y4 y5 y6
      unfold terracelaw19_SpeedBounds.j3
      repeat' first
      | (with_reducible exact ih0 _ _ _ _ _ _)
      | (with_reducible exact ih1 _ _ _ _ _)
      | (with_reducible exact ih2 _ _ _ _ _ _)
      | (with_reducible exact ih3 _ _ _ _ _ _ _)
      | (with_reducible exact ih4 _ _ _ _ _ _ _)
      | (with_reducible exact ih5 _ _)
      | (with_reducible exact ih6 _)
      | (with_reducible exact fix_Ratio.mono _ _ _)
      | (with_reducible exact speed_Speed_Held.mono _ _ _ _ _ _)
      | (with_reducible exact terracelaw19_awake.mono _)
      | (with_reducible exact LeO.refl _)
      | (with_reducible exact LeO.none _)
      | (with_reducible refine LeO.ite ?_ ?_)
      | (with_reducible refine LeO.bind ?_ (fun _ => ?_))
      | exact ih0 _ _ _ _ _ _
      | exact ih1 _ _ _ _ _
      | exact ih2 _ _ _ _ _ _
      | exact ih3 _ _ _ _ _ _ _
      | exact ih4 _ _ _ _ _ _ _
      | exact ih5 _ _
      | exact ih6 _
      | exact fix_Ratio.mono _ _ _
      | exact speed_Speed_Held.mono _ _ _ _ _ _
      | exact terracelaw19_awake.mono _
      | exact LeO.none _
      | refine LeO.ite ?_ ?_
      | refine LeO.bind ?_ (fun _ => ?_)
    · intro y0 y1 y2 y3 y4 y5 y6
      unfold terracelaw19_SpeedBounds.j4
      repeat' first
      | (with_reducible exact ih0 _ _ _ _ _ _)
      | (with_reducible exact ih1 _ _ _ _ _)
      | (with_reducible exact ih2 _ _ _ _ _ _)
      | (with_reducible exact ih3 _ _ _ _ _ _ _)
      | (with_reducible exact ih4 _ _ _ _ _ _ _)
      | (with_reducible exact ih5 _ _)
      | (with_reducible exact ih6 _)
      | (with_reducible exact fix_Ratio.mono _ _ _)
      | (with_reducible exact speed_Speed_Held.mono _ _ _ _ _ _)
      | (with_reducible exact terracelaw19_awake.mono _)
      | (with_reducible exact LeO.refl _)
      | (with_reducible exact LeO.none _)
      | (with_reducible refine LeO.ite ?_ ?_)
      | (with_reducible refine LeO.bind ?_ (fun _ => ?_))
      | exact ih0 _ _ _ _ _ _
      | exact ih1 _ _ _ _ _
      | exact ih2 _ _ _ _ _ _
      | exact ih3 _ _ _ _ _ _ _
      | exact ih4 _ _ _ _ _ _ _
      | exact ih5 _ _
      | exact ih6 _
      | exact fix_Ratio.mono _ _ _
      | exact speed_Speed_Held.mono _ _ _ _ _ _
      | exact terracelaw19_awake.mono _
      | exact LeO.none _
      | refine LeO.ite ?_ ?_
      | refine LeO.bind ?_ (fun _ => ?_)
    · intro y0 y1
      unfold terracelaw19_SpeedBounds.j5
      repeat' first
      | (with_reducible exact ih0 _ _ _ _ _ _)
      | (with_reducible exact ih1 _ _ _ _ _)
      | (with_reducible exact ih2 _ _ _ _ _ _)
      | (with_reducible exact ih3 _ _ _ _ _ _ _)
      | (with_reducible exact ih4 _ _ _ _ _ _ _)
      | (with_reducible exact ih5 _ _)
      | (with_reducible exact ih6 _)
      | (with_reducible exact fix_Ratio.mono _ _ _)
      | (with_reducible exact speed_Speed_Held.mono _ _ _ _ _ _)
      | (with_reducible exact terracelaw19_awake.mono _)
      | (with_reducible exact LeO.refl _)
      | (with_reducible exact LeO.none _)
      | (with_reducible refine LeO.ite ?_ ?_)
      | (with_reducible refine LeO.bind ?_ (fun _ => ?_))
      | exact ih0 _ _ _ _ _ _
      | exact ih1 _ _ _ _ _
      | exact ih2 _ _ _ _ _ _
      | exact ih3 _ _ _ _ _ _ _
      | exact ih4 _ _ _ _ _ _ _
      | exact ih5 _ _
      | exact ih6 _
      | exact fix_Ratio.mono _ _ _
      | exact speed_Speed_Held.mono _ _ _ _ _ _
      | exact terracelaw19_awake.mono _
      | exact LeO.none _
      | refine LeO.ite ?_ ?_
      | refine LeO.bind ?_ (fun _ => ?_)
    · intro y0
      unfold terracelaw19_SpeedBounds.j6
      repeat' first
      | (with_reducible exact ih0 _ _ _ _ _ _)
      | (with_reducible exact ih1 _ _ _ _ _)
      | (with_reducible exact ih2 _ _ _ _ _ _)
      | (with_reducible exact ih3 _ _ _ _ _ _ _)
      | (with_reducible exact ih4 _ _ _ _ _ _ _)
      | (with_reducible exact ih5 _ _)
      | (with_reducible exact ih6 _)
      | (with_reducible exact fix_Ratio.mono _ _ _)
      | (with_reducible exact speed_Speed_Held.mono _ _ _ _ _ _)
      | (with_reducible exact terracelaw19_awake.mono _)
      | (with_reducible exact LeO.refl _)
      | (with_reducible exact LeO.none _)
      | (with_reducible refine LeO.ite ?_ ?_)
      | (with_reducible refine LeO.bind ?_ (fun _ => ?_))
      | exact ih0 _ _ _ _ _ _
      | exact ih1 _ _ _ _ _
      | exact ih2 _ _ _ _ _ _
      | exact ih3 _ _ _ _ _ _ _
      | exact ih4 _ _ _ _ _ _ _
      | exact ih5 _ _
      | exact ih6 _
      | exact fix_Ratio.mono _ _ _
      | exact speed_Speed_Held.mono _ _ _ _ _ _
      | exact terracelaw19_awake.mono _
      | exact LeO.none _
      | refine LeO.ite ?_ ?_
      | refine LeO.bind ?_ (fun _ => ?_)
theorem terracelaw19_SpeedBounds.mono : ∀ a0 a1 a2 k, LeO (terracelaw19_SpeedBounds.f k a0 a1 a2) (terracelaw19_SpeedBounds.f (k + 1) a0 a1 a2) := by
  intro a0 a1 a2 k
  obtain ⟨ih0, ih1, ih2, ih3, ih4, ih5, ih6⟩ := terracelaw19_SpeedBounds.mono_l k
  unfold terracelaw19_SpeedBounds.f
  repeat' first
      | (with_reducible exact ih0 _ _ _ _ _ _)
      | (with_reducible exact ih1 _ _ _ _ _)
      | (with_reducible exact ih2 _ _ _ _ _ _)
      | (with_reducible exact ih3 _ _ _ _ _ _ _)
      | (with_reducible exact ih4 _ _ _ _ _ _ _)
      | (with_reducible exact ih5 _ _)
      | (with_reducible exact ih6 _)
      | (with_reducible exact fix_Ratio.mono _ _ _)
      | (with_reducible exact speed_Speed_Held.mono _ _ _ _ _ _)
      | (with_reducible exact terracelaw19_awake.mono _)
      | (with_reducible exact LeO.refl _)
      | (with_reducible exact LeO.none _)
      | (with_reducible refine LeO.ite ?_ ?_)
      | (with_reducible refine LeO.bind ?_ (fun _ => ?_))
      | exact ih0 _ _ _ _ _ _
      | exact ih1 _ _ _ _ _
      | exact ih2 _ _ _ _ _ _
      | exact ih3 _ _ _ _ _ _ _
      | exact ih4 _ _ _ _ _ _ _
      | exact ih5 _ _
      | exact ih6 _
      | exact fix_Ratio.mono _ _ _
      | exact speed_Speed_Held.mono _ _ _ _ _ _
      | exact terracelaw19_awake.mono _
      | exact LeO.none _
      | refine LeO.ite ?_ ?_
      | refine LeO.bind ?_ (fun _ => ?_)
def terracelaw19_SpeedBounds.T14 : Bool × List (List Nat × List Nat) := (true, [([], []), ([], []), ([1], [1]), ([], []), ([3], [3]), ([], []), ([5], [5]), ([0, 2, 4, 6], [0, 2, 4, 6]), ([7], [7]), ([8, 7], [8]), ([9], [9]), ([10, 9, 9], [9, 10]), ([9], [9]), ([12, 9], [9, 12]), ([9], [9]), ([13, 14, 9], [9, 13, 14]), ([11, 15, 9], [9, 11, 15]), ([16, 11, 9], [9, 16]), ([17], [17]), ([18, 17, 17], [17, 18]), ([17], [17]), ([17], [17]), ([21, 17], [17, 21]), ([22, 17], [17, 22]), ([17], [17]), ([24, 17], [17, 24]), ([25, 17], [17, 25]), ([23, 26, 19, 17], [17, 23, 26]), ([20, 27, 27, 17], [17, 20, 27]), ([17], [17]), ([28, 29, 17], [17, 28, 29]), ([19, 30, 17], [17, 19, 30]), ([17, 31, 9], [9, 17, 31]), ([9, 32], [9, 32])])
def terracelaw19_SpeedBounds.B14 : List Nat := [0, 0, 2, 0, 8, 0, 32, 127, 255, 511, 1023, 2047, 1023, 5119, 1023, 29695, 65535, 131071, 262143, 524287, 262143, 262143, 2359295, 6553599, 262143, 17039359, 50593791, 133169151, 268435455, 262143, 1073741823, 2147483647, 4294967295, 8589934591]
theorem terracelaw19_SpeedBounds.tab14 : rtab .any (opsOf Try.f4 14) = terracelaw19_SpeedBounds.T14 := by kernel_rfl
theorem terracelaw19_SpeedBounds.bits14 : waitsOk terracelaw19_SpeedBounds.T14.2 terracelaw19_SpeedBounds.B14 = true := by kernel_rfl
def terracelaw19_SpeedBounds.T18 : Bool × List (List Nat × List Nat) := (true, [([], []), ([0], [0]), ([], []), ([], []), ([2, 3, 1], [2, 3]), ([1, 4], [1, 4]), ([5, 4], [5]), ([6], [6]), ([7, 6], [6, 7]), ([8, 6], [6, 8]), ([9, 6, 6], [6, 9]), ([10], [10]), ([11, 10, 10], [10, 11]), ([10], [10]), ([13, 10], [10, 13]), ([10], [10]), ([15, 10], [10, 15]), ([14, 16, 12, 10], [10, 14, 16]), ([10], [10]), ([17, 18, 10], [10, 17, 18]), ([12, 19, 10], [10, 12, 19]), ([10, 20, 6], [6, 10, 20]), ([6, 21], [6, 21]), ([22, 17], [22]), ([23], [23]), ([24, 23], [23, 24]), ([25, 23], [23, 25]), ([26, 23, 23], [23, 26]), ([27], [27]), ([28, 27, 27], [27, 28]), ([27], [27]), ([29, 30, 27], [27, 29, 30]), ([27, 31, 23], [23, 27, 31]), ([23, 32], [23, 32])])
def terracelaw19_SpeedBounds.B18 : List Nat := [0, 1, 0, 0, 15, 31, 63, 127, 255, 511, 1023, 2047, 4095, 2047, 10239, 2047, 34815, 131071, 2047, 524287, 1048575, 2097151, 4194303, 8388607, 16777215, 33554431, 67108863, 134217727, 268435455, 536870911, 268435455, 2147483647, 4294967295, 8589934591]
theorem terracelaw19_SpeedBounds.tab18 : rtab .any (opsOf Try.f4 18) = terracelaw19_SpeedBounds.T18 := by kernel_rfl
theorem terracelaw19_SpeedBounds.bits18 : waitsOk terracelaw19_SpeedBounds.T18.2 terracelaw19_SpeedBounds.B18 = true := by kernel_rfl
set_option maxHeartbeats 8000000 in
set_option maxRecDepth 100000 in
theorem terracelaw19_SpeedBounds.calls (k : Nat) (a0 : Int) (a1 : Int) (A2 : Option Addr) (c2 : Nat) (l2 : List (S38)) (r : Bool) (w : World) (hr2 : Kd.C k38 w A2 l2.length l2) (hc2 : l2.length ≤ c2) (h : terracelaw19_SpeedBounds.f k a0 a1 l2 = some r) :
    Calls Try.prog 4 #[.int .u64 a0, .int .u64 a1, .slice A2 l2.length c2] w fun e w' => e = .returned (.bool r) ∧ Below w.heap.size w w' := by
  have hu38 := Try.underlying38
  have hup29 := Try.underlying29
  have HR2 := Aside0.mk hr2
  have HC2 := Aside0.mk hc2
  clear hr2 hc2
  have HB := Aside0.mk (Below.refl w.heap.size w)
  have H : (if (l2.length : Int) > 100 then ((terracelaw19_awake.f k).bind fun t163 => (some t163)) else (if speed_New.ok a0 a1 = true then ((speed_New.f a0 a1).bind fun bt164 => (if a0 = 0 then (terracelaw19_SpeedBounds.j0 k a0 l2 bt164.2.2 true bt164.1 bt164.2.1) else (terracelaw19_SpeedBounds.j0 k a0 l2 bt164.2.2 (decide (a1 < a0)) bt164.1 bt164.2.1))) else ((speed_New_no.f a0 a1).bind fun t204 => (if a0 = 0 then (terracelaw19_SpeedBounds.j5 k t204 true) else (terracelaw19_SpeedBounds.j5 k t204 (decide (a1 < a0))))))) = some r := h
  clear h
  by_cases c4 : (l2.length : Int) > 100
  · rw [if_pos c4] at H
    have c4b0 : decide (100 < (l2.length : Int)) = true := decide_eq_true c4
    have c4b1 : decide (100 < l2.length) = true := decide_eq_true (by omega)
    clear c4
    replace H := Option.bind_eq_some_iff.mp H
    obtain ⟨t163, A50, H⟩ := H
    replace H : (some t163) = some r := H
    have A5 := Aside0.mk A50
    clear A50
    obtain rfl := Option.some.inj H
    go_enter Try.func4, Try.ntmps4
    go_wp2_with (first | ((with_reducible refine gate_callee (f := 8) rfl ?_); refine goesL_ (some 15) rfl rfl Try.func8 (by kernel_rfl) rfl #[] rfl (by (try simp only [List.map_toArray, List.map_cons, List.map_nil]); first | done | rfl | (simp only [List.length_drop, List.length_take]; rfl)) ?_; (with_reducible refine (terracelaw19_awake.calls k  t163 _ A5.out).mono ?_); rintro e w6 ⟨rfl, hb⟩; refine ⟨_, rfl, ?_⟩; have n0_ := Aside0.mk (below_step (by repeat (first | (with_reducible first | exact HB.out | apply below_alloc | apply pw_below_drewN | apply below_drew1) | exact HB.out)) hb); clear HB; have HB := n0_; clear n0_; (try clear hb); (try clear hb2); (try clear hk); (try clear hi)))
    go_ret
    exact ⟨by first | rfl | (simp [errW_none, errW_some] <;> rfl) | (simp [*, errW_none, errW_some] <;> rfl), by repeat (first | (with_reducible first | exact HB.out | apply below_alloc | apply pw_below_drewN | apply below_drew1) | exact HB.out)⟩
  · rw [if_neg c4] at H
    have c4b0 : decide (100 < (l2.length : Int)) = false := decide_eq_false c4
    have c4b1 : decide (100 < l2.length) = false := decide_eq_false (by omega)
    clear c4
    by_cases c7 : speed_New.ok a0 a1 = true
    · rw [if_pos c7] at H
      have c7b0 : speed_New.ok a0 a1 = true := c7
      clear c7
      replace H := Option.bind_eq_some_iff.mp H
      obtain ⟨⟨t164, t165, t167⟩, A80, H⟩ := H
      replace H : (if a0 = 0 then (terracelaw19_SpeedBounds.j0 k a0 l2 t167 true t164 t165) else (terracelaw19_SpeedBounds.j0 k a0 l2 t167 (decide (a1 < a0)) t164 t165)) = some r := H
      have A8 := Aside0.mk A80
      clear A80
      have HC9 := Aside0.mk H
      clear H
      go_enter Try.func4, Try.ntmps4
      go_upto_region 4 with (first | ((with_reducible refine gate_callee (f := 9) rfl ?_); refine goesL_ (some 19) rfl rfl Try.func9 (by kernel_rfl) rfl #[.int .u64 a0, .int .u64 a1] rfl (by (try simp only [List.map_toArray, List.map_cons, List.map_nil]); first | done | rfl | (simp only [List.length_drop, List.length_take]; rfl)) ?_; (with_reducible refine (speed_New.calls a0 a1 t164 t165 t167 _ A8.out).mono ?_); rintro e w10 ⟨g166, rfl, hi0, hb2⟩; refine ⟨_, rfl, ?_⟩; have hi : IsS48 w w10 g166 t164 t165 := ⟨hi0.1, Nat.le_trans (below_size (by repeat (first | (with_reducible first | exact HB.out | apply below_alloc | apply pw_below_drewN | apply below_drew1) | exact HB.out))) hi0.2⟩; have hb := below_step (by repeat (first | (with_reducible first | exact HB.out | apply below_alloc | apply pw_below_drewN | apply below_drew1) | exact HB.out)) hb2; have n0_ := Aside0.mk (hb); have n1_ := Aside0.mk (hi); clear HB; have HB := n0_; have HI166 := n1_; clear n0_ n1_; (try clear hb); (try clear hb2); (try clear hk); (try clear hi)))
      (try simp only [Act.put, sA, sB, sC])
      go_cut [28] (fun v28 wc => ∃ (kq : Nat) (x28_8 : Bool), v28 = .bool x28_8 ∧ Aside0 (terracelaw19_SpeedBounds.j0 kq a0 l2 t167 x28_8 t164 t165 = some r) ∧ Aside0 (kq ≤ k) ∧ Aside0 (IsS48 w wc g166 t164 t165) ∧ Aside0 (Below w.heap.size w wc))
      case first =>
        have H := HC9.out
        clear HC9
        by_cases c11 : a0 = 0
        · rw [if_pos c11] at H
          have c11b0 : (a0 == 0) = true := beq_iff_eq.mpr c11
          have c11b1 : (a0 != 0) = false := bne_eq_false_iff_eq.mpr c11
          clear c11
          (first | rw [c11b0] | (simp only [i64_w, i32_w]; rw [c11b0]) | skip)
          have H' := Aside0.mk H
          clear H
          go_wp2
          go_meet
          case rel => exact ⟨_, (true), (by first | rfl | (simp; done) | (simp [*]; done)), H', ⟨by first | omega | exact Nat.le_refl _⟩, ⟨by repeat (first | (with_reducible first | exact HI166.out | apply IsS48.alloc | apply IsS48.drewN | apply IsS48.drew | apply IsS48.set_0 | apply IsS48.set_1) | exact HI166.out)⟩, ⟨by repeat (first | (with_reducible first | exact HB.out | apply below_alloc | apply pw_below_drewN | apply below_drew1 | refine below_set ?_ (IsS48.ge HI166.out)) | exact HB.out)⟩⟩
        · rw [if_neg c11] at H
          have c11b0 : (a0 == 0) = false := beq_eq_false_iff_ne.mpr c11
          have c11b1 : (a0 != 0) = true := bne_iff_ne.mpr c11
          (first | rw [c11b0] | (simp only [i64_w, i32_w]; rw [c11b0]) | skip)
          have H' := Aside0.mk H
          clear H
          go_wp2
          go_meet
          case rel => exact ⟨_, (decide (a1 < a0)), (by first | rfl | (simp; done) | (simp [*]; done)), H', ⟨by first | omega | exact Nat.le_refl _⟩, ⟨by repeat (first | (with_reducible first | exact HI166.out | apply IsS48.alloc | apply IsS48.drewN | apply IsS48.drew | apply IsS48.set_0 | apply IsS48.set_1) | exact HI166.out)⟩, ⟨by repeat (first | (with_reducible first | exact HB.out | apply below_alloc | apply pw_below_drewN | apply below_drew1 | refine below_set ?_ (IsS48.ge HI166.out)) | exact HB.out)⟩⟩
      case rest =>
        clear HC9
        try clear c1
        try clear c2
        try clear p2
        try clear c4
        try clear c4b0
        try clear c4b1
        try clear c7
        try clear c7b0
        try clear c8
        try clear c9
        try clear c11
        try clear c11b0
        try clear c11b1
        obtain ⟨kq, x28_8, rfl, HA, HJ8, HI166, HB⟩ := hcut
        cases kq with
        | zero => exact absurd HA.out (by simp [terracelaw19_SpeedBounds.j0])
        | succ kj8 =>
          have H := HA.out
          clear HA
          simp only [terracelaw19_SpeedBounds.j0] at H
          by_cases c12 : x28_8 = true
          · subst c12
            have H1 : ((terracelaw19_awake.f kj8).bind fun t168 => (some t168)) = some r := by rw [if_pos rfl] at H; exact H
            clear H
            have H := H1
            clear H1
            replace H := Option.bind_eq_some_iff.mp H
            obtain ⟨t168, A130, H⟩ := H
            replace H : (some t168) = some r := H
            have A13 := Aside0.mk A130
            clear A130
            obtain rfl := Option.some.inj H
            go_wp2_with (first | ((with_reducible refine gate_callee (f := 8) rfl ?_); refine goesL_ (some 29) rfl rfl Try.func8 (by kernel_rfl) rfl #[] rfl (by (try simp only [List.map_toArray, List.map_cons, List.map_nil]); first | done | rfl | (simp only [List.length_drop, List.length_take]; rfl)) ?_; (with_reducible refine (terracelaw19_awake.calls kj8  t168 _ A13.out).mono ?_); rintro e w14 ⟨rfl, hb⟩; refine ⟨_, rfl, ?_⟩; have n0_ := Aside0.mk (IsS48.below (by repeat (first | (with_reducible first | exact HI166.out | apply IsS48.alloc | apply IsS48.drewN | apply IsS48.drew | apply IsS48.set_0 | apply IsS48.set_1) | exact HI166.out)) hb); have n1_ := Aside0.mk (below_step (by repeat (first | (with_reducible first | exact HB.out | apply below_alloc | apply pw_below_drewN | apply below_drew1 | refine below_set ?_ (IsS48.ge HI166.out)) | exact HB.out)) hb); clear HI166; clear HB; have HI166 := n0_; have HB := n1_; clear n0_ n1_; (try clear hb); (try clear hb2); (try clear hk); (try clear hi)))
            go_ret
            exact ⟨by first | rfl | (simp [errW_none, errW_some] <;> rfl) | (simp [*, errW_none, errW_some] <;> rfl), by repeat (first | (with_reducible first | exact HB.out | apply below_alloc | apply pw_below_drewN | apply below_drew1 | refine below_set ?_ (IsS48.ge HI166.out)) | exact HB.out)⟩
          · replace c12 := Bool.eq_false_iff.mpr c12
            subst c12
            have H1 : (if t167 = 0 then (terracelaw19_SpeedBounds.j1 kj8 a0 l2 false t164 t165) else (terracelaw19_SpeedBounds.j1 kj8 a0 l2 true t164 t165)) = some r := by rw [if_neg (show ¬ (false = true) by decide)] at H; exact H
            clear H
            have H := H1
            clear H1
            have HC15 := Aside0.mk H
            clear H
            go_upto_region 6 with (fail)
            go_cut [35] (fun v35 wc => ∃ (kq : Nat) (x35_14 : Bool), v35 = .bool x35_14 ∧ Aside0 (terracelaw19_SpeedBounds.j1 kq a0 l2 x35_14 t164 t165 = some r) ∧ Aside0 (kq ≤ kj8) ∧ Aside0 (IsS48 w wc g166 t164 t165) ∧ Aside0 (Below w.heap.size w wc))
            case first =>
              have H := HC15.out
              clear HC15
              by_cases c16 : t167 = 0
              · rw [if_pos c16] at H
                have c16b0 : (t167 == 0) = true := beq_iff_eq.mpr c16
                have c16b1 : (t167 != 0) = false := bne_eq_false_iff_eq.mpr c16
                clear c16
                (first | rw [c16b0] | (simp only [i64_w, i32_w]; rw [c16b0]) | skip)
                have H' := Aside0.mk H
                clear H
                go_wp2
                go_meet
                case rel => exact ⟨_, (false), (by first | rfl | (simp; done) | (simp [*]; done)), H', ⟨by have := HJ8.out; first | omega | exact Nat.le_refl _⟩, ⟨by repeat (first | (with_reducible first | exact HI166.out | apply IsS48.alloc | apply IsS48.drewN | apply IsS48.drew | apply IsS48.set_0 | apply IsS48.set_1) | exact HI166.out)⟩, ⟨by repeat (first | (with_reducible first | exact HB.out | apply below_alloc | apply pw_below_drewN | apply below_drew1 | refine below_set ?_ (IsS48.ge HI166.out)) | exact HB.out)⟩⟩
              · rw [if_neg c16] at H
                have c16b0 : (t167 == 0) = false := beq_eq_false_iff_ne.mpr c16
                have c16b1 : (t167 != 0) = true := bne_iff_ne.mpr c16
                (first | rw [c16b0] | (simp only [i64_w, i32_w]; rw [c16b0]) | skip)
                have H' := Aside0.mk H
                clear H
                go_wp2
                go_meet
                case rel => exact ⟨_, (true), (by first | rfl | (simp; done) | (simp [*]; done)), H', ⟨by have := HJ8.out; first | omega | exact Nat.le_refl _⟩, ⟨by repeat (first | (with_reducible first | exact HI166.out | apply IsS48.alloc | apply IsS48.drewN | apply IsS48.drew | apply IsS48.set_0 | apply IsS48.set_1) | exact HI166.out)⟩, ⟨by repeat (first | (with_reducible first | exact HB.out | apply below_alloc | apply pw_below_drewN | apply below_drew1 | refine below_set ?_ (IsS48.ge HI166.out)) | exact HB.out)⟩⟩
            case rest =>
              clear HC15
              try clear c1
              try clear c2
              try clear p2
              try clear c4
              try clear c4b0
              try clear c4b1
              try clear c7
              try clear c7b0
              try clear c8
              try clear c9
              try clear c11
              try clear c11b0
              try clear c11b1
              try clear c12
              try clear c16
              try clear c16b0
              try clear c16b1
              try clear p2
              obtain ⟨kq, x35_14, rfl, HA, HJ14, HI166, HB⟩ := hcut
              cases kq with
              | zero => exact absurd HA.out (by simp [terracelaw19_SpeedBounds.j1])
              | succ kj14 =>
                have H := HA.out
                clear HA
                simp only [terracelaw19_SpeedBounds.j1] at H
                by_cases c17 : x35_14 = true
                · subst c17
                  have H1 : (some false) = some r := by rw [if_pos rfl] at H; exact H
                  clear H
                  have H := H1
                  clear H1
                  obtain rfl := Option.some.inj H
                  go_wp2
                  go_ret
                  exact ⟨by first | rfl | (simp [errW_none, errW_some] <;> rfl) | (simp [*, errW_none, errW_some] <;> rfl), by repeat (first | (with_reducible first | exact HB.out | apply below_alloc | apply pw_below_drewN | apply below_drew1 | refine below_set ?_ (IsS48.ge HI166.out)) | exact HB.out)⟩
                · replace c17 := Bool.eq_false_iff.mpr c17
                  subst c17
                  have H1 : (terracelaw19_SpeedBounds.l0 kj14 a0 l2 (l2.length : Int) 0 t164 t165) = some r := by rw [if_neg (show ¬ (false = true) by decide)] at H; exact H
                  clear H
                  have H := H1
                  clear H1
                  have H' := Aside0.mk H
                  clear H
                  go_wp2
                  go_loopg [38] kj14 (fun kq v38 w' => ∃ (x38_3 : Int) (x167000_3 : Int) (x167001_3 : Int), v38 = .int .i64 x38_3 ∧ Aside0 (terracelaw19_SpeedBounds.l0 kq a0 l2 (l2.length : Int) x38_3 x167000_3 x167001_3 = some r) ∧ Aside0 (kq ≤ kj14) ∧ Aside0 (IsS48 w w' g166 x167000_3 x167001_3) ∧ Aside0 (Below w.heap.size w w'))
                  case atStart => exact ⟨(0), (t164), (t165), (by first | rfl | (simp; done) | (simp [*]; done)), H', ⟨Nat.le_refl _⟩, ⟨by repeat (first | (with_reducible first | exact HI166.out | apply IsS48.alloc | apply IsS48.drewN | apply IsS48.drew | apply IsS48.set_0 | apply IsS48.set_1) | exact HI166.out)⟩, ⟨by repeat (first | (with_reducible first | exact HB.out | apply below_alloc | apply pw_below_drewN | apply below_drew1 | refine below_set ?_ (IsS48.ge HI166.out)) | exact HB.out)⟩⟩
                  case round =>
                    clear H'
                    try clear c1
                    try clear c2
                    try clear p2
                    try clear c4
                    try clear c4b0
                    try clear c4b1
                    try clear c7
                    try clear c7b0
                    try clear c8
                    try clear c9
                    try clear c11
                    try clear c11b0
                    try clear c11b1
                    try clear c12
                    try clear c16
                    try clear c16b0
                    try clear c16b1
                    try clear c17
                    try clear p2
                    obtain ⟨x38_3, x167000_3, x167001_3, rfl, HA, HK3, HI166, HB⟩ := hrel
                    cases gk with
                    | zero => exact absurd HA.out (by simp [terracelaw19_SpeedBounds.l0])
                    | succ k3 =>
                      have H := HA.out
                      clear HA
                      simp only [terracelaw19_SpeedBounds.l0] at H
                      by_cases c18 : x38_3 < (l2.length : Int)
                      · rw [if_pos c18] at H
                        have c18b0 : decide (x38_3 < (l2.length : Int)) = true := decide_eq_true c18
                        clear c18
                        by_cases c19 : 0 ≤ x38_3
                        · rw [if_pos c19] at H
                          have c19b0 : decide (0 ≤ x38_3) = true := decide_eq_true c19
                          clear c19
                          by_cases c20 : x38_3 < (l2.length : Int)
                          · rw [if_pos c20] at H
                            have c20b0 : decide (x38_3 < (l2.length : Int)) = true := decide_eq_true c20
                            clear c20
                            replace H := Option.bind_eq_some_iff.mp H
                            obtain ⟨⟨t172, t173, t174⟩, A210, H⟩ := H
                            (try dsimp -simprocs only at H)
                            have A21 := Aside0.mk A210
                            clear A210
                            by_cases c22 : ((rd_T38 l2 x38_3).f0) = 1
                            · rw [if_pos c22] at H
                              have c22b0 : (((rd_T38 l2 x38_3).f0) == 1) = true := beq_iff_eq.mpr c22
                              have c22b1 : (((rd_T38 l2 x38_3).f0) != 1) = false := bne_eq_false_iff_eq.mpr c22
                              clear c22
                              have HC23 := Aside0.mk H
                              clear H
                              have p170 : 0 ≤ (x38_3 : Int) := of_decide_eq_true (by first | (with_reducible assumption) | assumption)
                              have q170 : x38_3 < (l2.length : Int) := of_decide_eq_true (by first | (with_reducible assumption) | assumption)
                              obtain ⟨ad170, e170, hx170_0, hx170_1, hx170_2, hx170_3⟩ := at_T38 HR2.out x38_3 p170 q170
                              cases e170
                              replace hx170_0 := (HB.out.cell (World.block_lt_of_cell? w _ hx170_0)).trans hx170_0
                              replace hx170_1 := (HB.out.cell (World.block_lt_of_cell? w _ hx170_1)).trans hx170_1
                              replace hx170_2 := (HB.out.cell (World.block_lt_of_cell? w _ hx170_2)).trans hx170_2
                              replace hx170_3 := (HB.out.cell (World.block_lt_of_cell? w _ hx170_3)).trans hx170_3
                              replace p170 := eq_true p170
                              replace q170 := eq_true q170
                              go_upto_region 14 with (first | ((with_reducible refine gate_dst (N := 10) rfl ?_); (try (refine gate_guard (by rfl) ?_; dsimp only)); refine box_event ?hg (N := 10) ?hd (cs := #[.int .i64 0, .int .i64 0, .int .i64 0, .int .u64 0]) (t := 38) ?hr ?_; (case hd => rfl); (case hg => rfl); (case hr => first | (go_simp; done) | (go_simp; rfl)); intro gb171 hg w24 hbox hb; have n0_ := Aside0.mk (IsS48.below (by repeat (first | (with_reducible first | exact HI166.out | apply IsS48.alloc | apply IsS48.drewN | apply IsS48.drew | apply IsS48.set_0 | apply IsS48.set_1) | exact HI166.out)) hb); have n1_ := Aside0.mk (below_step (by repeat (first | (with_reducible first | exact HB.out | apply below_alloc | apply pw_below_drewN | apply below_drew1 | refine below_set ?_ (IsS48.ge HI166.out)) | exact HB.out)) hb); have n2_ := Aside0.mk (hbox); have n3_ := Aside0.mk ((by rw [hg]; exact (below_size (by repeat (first | (with_reducible first | exact HB.out | apply below_alloc | apply pw_below_drewN | apply below_drew1 | refine below_set ?_ (IsS48.ge HI166.out)) | exact HB.out))) : w.heap.size ≤ gb171)); have n4_ := Aside0.mk ((by rw [hg]; exact (below_size (by repeat (first | (with_reducible first | exact HB.out | apply below_alloc | apply pw_below_drewN | apply below_drew1 | refine below_set ?_ (IsS48.ge HI166.out)) | exact HB.out))) : w.heap.size ≤ gb171)); have n5_ := Aside0.mk ((by rw [hg]; exact Nat.ne_of_lt (IsS48.lt (show IsS48 w _ g166 x167000_3 x167001_3 from by repeat (first | (with_reducible first | exact HI166.out | apply IsS48.alloc | apply IsS48.drewN | apply IsS48.drew | apply IsS48.set_0 | apply IsS48.set_1) | exact HI166.out))) : g166 ≠ gb171)); have n6_ := Aside0.mk ((by rw [hg]; exact Nat.ne_of_gt (IsS48.lt (show IsS48 w _ g166 x167000_3 x167001_3 from by repeat (first | (with_reducible first | exact HI166.out | apply IsS48.alloc | apply IsS48.drewN | apply IsS48.drew | apply IsS48.set_0 | apply IsS48.set_1) | exact HI166.out))) : gb171 ≠ g166)); clear HI166; clear HB; have HI166 := n0_; have HB := n1_; have BK171 := n2_; have GW171 := n3_; have GE171 := n4_; have NB166_171 := n5_; have NB171_166 := n6_; clear n0_ n1_ n2_ n3_ n4_ n5_ n6_; clear hb hbox hg; have hnb25 := NB171_166.out; have hnc25 := NB166_171.out; have hcz26_0 : w24.cell? ⟨gb171, 0, none⟩ = some (.int .i64 0) := (blk_cell BK171.out 0).trans rfl; have hcz26_1 : w24.cell? ⟨gb171, 1, none⟩ = some (.int .i64 0) := (blk_cell BK171.out 1).trans rfl; have hcz26_2 : w24.cell? ⟨gb171, 2, none⟩ = some (.int .i64 0) := (blk_cell BK171.out 2).trans rfl; have hcz26_3 : w24.cell? ⟨gb171, 3, none⟩ = some (.int .u64 0) := (blk_cell BK171.out 3).trans rfl; have hfz26_0 := blk_frozen BK171.out 0; have hfz26_1 := blk_frozen BK171.out 1; have hfz26_2 := blk_frozen BK171.out 2; have hfz26_3 := blk_frozen BK171.out 3) | ((with_reducible refine gate_callee (f := 11) rfl ?_); refine goesL_ (some 43) rfl rfl Try.func11 (by kernel_rfl) rfl #[.pointer (some ⟨g166, 0, none⟩)] rfl (by (try simp only [List.map_toArray, List.map_cons, List.map_nil]); first | done | rfl | (simp only [List.length_drop, List.length_take]; rfl)) ?_; (with_reducible refine (speed_Speed_Rate.calls g166 x167000_3 x167001_3 t172 t173 t174 w _ ?side1 ?side2 A21.out).mono ?_); (case side1 => repeat (first | (with_reducible first | exact HI166.out | apply IsS48.alloc | apply IsS48.drewN | apply IsS48.drew | apply IsS48.set_0 | apply IsS48.set_1 | refine IsS48.far ?_ NB166_171.out _) | exact HI166.out)); (case side2 => repeat (first | (with_reducible first | exact HB.out | apply below_alloc | apply pw_below_drewN | apply below_drew1 | refine below_set ?_ (IsS48.ge HI166.out) | refine below_set ?_ GE171.out) | exact HB.out)); rintro e w27 ⟨rfl, hi, hb, hk⟩; refine ⟨_, rfl, ?_⟩; have n0_ := Aside0.mk (KeepBut.blk hk (g' := gb171) (o := .cells #[.int .i64 ((rd_T38 l2 x38_3).f0), .int .i64 ((rd_T38 l2 x38_3).f1), .int .i64 ((rd_T38 l2 x38_3).f2), .int .u64 ((rd_T38 l2 x38_3).f3)] 38 (0, 0)) (by (with_reducible repeat (first | refine blk_drewN ?_ _ | refine blk_drew ?_ | refine blk_alloc ?_ _)); refine blk_put (cs := #[.int .i64 ((rd_T38 l2 x38_3).f0), .int .i64 ((rd_T38 l2 x38_3).f1), .int .i64 ((rd_T38 l2 x38_3).f2), .int .u64 0]) ?_ 3 _ rfl; (with_reducible repeat (first | refine blk_drewN ?_ _ | refine blk_drew ?_ | refine blk_alloc ?_ _)); refine blk_put (cs := #[.int .i64 ((rd_T38 l2 x38_3).f0), .int .i64 ((rd_T38 l2 x38_3).f1), .int .i64 0, .int .u64 0]) ?_ 2 _ rfl; (with_reducible repeat (first | refine blk_drewN ?_ _ | refine blk_drew ?_ | refine blk_alloc ?_ _)); refine blk_put (cs := #[.int .i64 ((rd_T38 l2 x38_3).f0), .int .i64 0, .int .i64 0, .int .u64 0]) ?_ 1 _ rfl; (with_reducible repeat (first | refine blk_drewN ?_ _ | refine blk_drew ?_ | refine blk_alloc ?_ _)); refine blk_put (cs := #[.int .i64 0, .int .i64 0, .int .i64 0, .int .u64 0]) ?_ 0 _ rfl; (with_reducible repeat (first | refine blk_drewN ?_ _ | refine blk_drew ?_ | refine blk_alloc ?_ _)); exact BK171.out) NB171_166.out (by simp)); have n1_ := Aside0.mk (hb); have n2_ := Aside0.mk (hi); clear BK171; clear HB; clear HI166; have BK171 := n0_; have HB := n1_; have HI166 := n2_; clear n0_ n1_ n2_; (try clear hb); (try clear hb2); (try clear hk); (try clear hi); have hcz28_0 : w27.cell? ⟨gb171, 0, none⟩ = some (.int .i64 ((rd_T38 l2 x38_3).f0)) := (blk_cell BK171.out 0).trans rfl; have hcz28_1 : w27.cell? ⟨gb171, 1, none⟩ = some (.int .i64 ((rd_T38 l2 x38_3).f1)) := (blk_cell BK171.out 1).trans rfl; have hcz28_2 : w27.cell? ⟨gb171, 2, none⟩ = some (.int .i64 ((rd_T38 l2 x38_3).f2)) := (blk_cell BK171.out 2).trans rfl; have hcz28_3 : w27.cell? ⟨gb171, 3, none⟩ = some (.int .u64 ((rd_T38 l2 x38_3).f3)) := (blk_cell BK171.out 3).trans rfl; have hfz28_0 := blk_frozen BK171.out 0; have hfz28_1 := blk_frozen BK171.out 1; have hfz28_2 := blk_frozen BK171.out 2; have hfz28_3 := blk_frozen BK171.out 3))
                              (try simp only [Act.put, sA, sB, sC])
                              go_cut [81] (fun v81 wc => ∃ (kq : Nat) (x81_22 : Bool) (x167000_22 : Int) (x167001_22 : Int), v81 = .bool x81_22 ∧ Aside0 (terracelaw19_SpeedBounds.j3 kq a0 l2 (l2.length : Int) x38_3 x81_22 x167000_22 x167001_22 = some r) ∧ Aside0 (kq ≤ k3) ∧ Aside0 (wc.heap[gb171]? = some (.cells #[.int .i64 ((rd_T38 l2 x38_3).f0), .int .i64 ((rd_T38 l2 x38_3).f1), .int .i64 ((rd_T38 l2 x38_3).f2), .int .u64 ((rd_T38 l2 x38_3).f3)] 38 (0, 0))) ∧ Aside0 (IsS48 w wc g166 x167000_22 x167001_22) ∧ Aside0 (Below w.heap.size w wc))
                              case first =>
                                have H := HC23.out
                                clear HC23
                                replace H := Option.bind_eq_some_iff.mp H
                                obtain ⟨⟨t175, t176, t177⟩, A290, H⟩ := H
                                (try dsimp -simprocs only at H)
                                have A29 := Aside0.mk A290
                                clear A290
                                by_cases c30 : t175 = 0
                                · rw [if_pos c30] at H
                                  have c30b0 : (t175 == 0) = true := beq_iff_eq.mpr c30
                                  have c30b1 : (t175 != 0) = false := bne_eq_false_iff_eq.mpr c30
                                  clear c30
                                  (first | rw [c30b0] | (simp only [i64_w, i32_w]; rw [c30b0]) | skip)
                                  replace H := Option.bind_eq_some_iff.mp H
                                  obtain ⟨⟨t178, t179, t180⟩, A310, H⟩ := H
                                  (try dsimp -simprocs only at H)
                                  have A31 := Aside0.mk A310
                                  clear A310
                                  obtain ⟨ji32, hji32⟩ : ∃ j_ : Int, (mx ((rd_T38 l2 x38_3).f3) a0) = j_ := ⟨_, rfl⟩
                                  replace H : (if t178 > (ji32) then (terracelaw19_SpeedBounds.j3 k3 a0 l2 (l2.length : Int) x38_3 true t179 t180) else ((speed_Speed_Rate.f t179 t180).bind fun bt181 => ((fix_Ratio.f k3 (IntKind.u64.wrap ((rd_T38 l2 x38_3).f1)) (IntKind.u64.wrap ((rd_T38 l2 x38_3).f2))).bind fun t184 => ((fix_F_Add.f t172 t184).bind fun t185 => (terracelaw19_SpeedBounds.j3 k3 a0 l2 (l2.length : Int) x38_3 (decide (bt181.1 > (mx t185 a0))) bt181.2.1 bt181.2.2))))) = some r := by first | (rw [hji32] at H; exact H) | (simp only [hji32] at H ⊢; exact H)
                                  (try rw [hji32] at A29)
                                  (try rw [hji32] at A31)
                                  have hji32_ : (if ((rd_T38 l2 x38_3).f3) < a0 then a0 else ((rd_T38 l2 x38_3).f3)) = ji32 := hji32
                                  by_cases c33 : t178 > (ji32)
                                  · rw [if_pos c33] at H
                                    have c33b0 : decide ((ji32) < t178) = true := decide_eq_true c33
                                    clear c33
                                    have H' := Aside0.mk H
                                    clear H
                                    try go_wp2
                                    have n0_ := Aside0.mk (blk_drew BK171.out)
                                    have n1_ := Aside0.mk (IsS48.drew HI166.out)
                                    have n2_ := Aside0.mk (below_drew1 HB.out)
                                    clear BK171
                                    clear HI166
                                    clear HB
                                    have BK171 := n0_
                                    have HI166 := n1_
                                    have HB := n2_
                                    clear n0_ n1_ n2_
                                    refine start_ (n := 34) (S := fun w' => w'.cell? ⟨gb171, 0, none⟩ = some (.int .i64 ((rd_T38 l2 x38_3).f0)) ∧ w'.cell? ⟨gb171, 1, none⟩ = some (.int .i64 ((rd_T38 l2 x38_3).f1)) ∧ w'.cell? ⟨gb171, 2, none⟩ = some (.int .i64 ((rd_T38 l2 x38_3).f2)) ∧ w'.cell? ⟨gb171, 3, none⟩ = some (.int .u64 ((rd_T38 l2 x38_3).f3))) (ds := []) #[nb, nb, nb, nb, nb, nb, nb, nb, nb, nb, nb, nb, nb, nb, nb, nb, nb, nb, nb, nb, nb, nb, nb, nb, nb, nb, nb, nb, nb, nb, nb, nb, nb, nb] (by kernel_rfl) rfl rfl ⟨(blk_cell BK171.out 0).trans rfl, (blk_cell BK171.out 1).trans rfl, (blk_cell BK171.out 2).trans rfl, (blk_cell BK171.out 3).trans rfl⟩ (fun hHeld => ?_); refine with_tabW terracelaw19_SpeedBounds.tab14 terracelaw19_SpeedBounds.bits14 (fun HT_ HW_ => ?_)
                                    generalize w27.drew = w34 at BK171 HI166 HB hHeld ⊢
                                    refine pure_ (i := 0) (N := some 48) (v := ?_) (a' := ?_) #[yb, nb, nb, nb, nb, nb, nb, nb, nb, nb, nb, nb, nb, nb, nb, nb, nb, nb, nb, nb, nb, nb, nb, nb, nb, nb, nb, nb, nb, nb, nb, nb, nb, nb] rfl rfl (any_of HT_.out (by kernel_rfl)) (fun _ _ _ h => h) (Or.inl ⟨by rfl, ?_⟩) ?_ ?_; rotate_left; (focus intro w'; go_simp; with_reducible rfl); rotate_left; (focus simp only [Act.put, sA, sB, sC, i64_w, i32_w]; rfl)
                                    refine pure_ (i := 1) (N := some 49) (v := ?_) (a' := ?_) #[yb, yb, nb, nb, nb, nb, nb, nb, nb, nb, nb, nb, nb, nb, nb, nb, nb, nb, nb, nb, nb, nb, nb, nb, nb, nb, nb, nb, nb, nb, nb, nb, nb, nb] rfl rfl (any_of HT_.out (by kernel_rfl)) (fun _ _ _ h => h) (Or.inl ⟨by rfl, ?_⟩) ?_ ?_; rotate_left; (focus intro w'; go_simp; with_reducible rfl); rotate_left; (focus simp only [Act.put, sA, sB, sC, i64_w, i32_w]; rfl)
                                    refine pure_ (i := 3) (N := some 51) (v := ?_) (a' := ?_) #[yb, yb, nb, yb, nb, nb, nb, nb, nb, nb, nb, nb, nb, nb, nb, nb, nb, nb, nb, nb, nb, nb, nb, nb, nb, nb, nb, nb, nb, nb, nb, nb, nb, nb] rfl rfl (any_of HT_.out (by kernel_rfl)) (fun _ _ _ h => h) (Or.inl ⟨by rfl, ?_⟩) ?_ ?_; rotate_left; (focus intro w'; go_simp; with_reducible rfl); rotate_left; (focus simp only [Act.put, sA, sB, sC, i64_w, i32_w]; rfl)
                                    refine pure_ (i := 5) (N := some 53) (v := ?_) (a' := ?_) #[yb, yb, nb, yb, nb, yb, nb, nb, nb, nb, nb, nb, nb, nb, nb, nb, nb, nb, nb, nb, nb, nb, nb, nb, nb, nb, nb, nb, nb, nb, nb, nb, nb, nb] rfl rfl (any_of HT_.out (by kernel_rfl)) (fun _ _ _ h => h) (Or.inl ⟨by rfl, ?_⟩) ?_ ?_; rotate_left; (focus intro w'; go_simp; with_reducible rfl); rotate_left; (focus simp only [Act.put, sA, sB, sC, i64_w, i32_w]; rfl)
                                    refine take_ (i := 2) (N := some 50) (v := ?_) (a' := ?_) #[yb, yb, yb, yb, nb, yb, nb, nb, nb, nb, nb, nb, nb, nb, nb, nb, nb, nb, nb, nb, nb, nb, nb, nb, nb, nb, nb, nb, nb, nb, nb, nb, nb, nb] rfl rfl (take_ofW HT_.out HW_.out (by kernel_rfl)) (fun _ _ _ h => h) (Or.inl ⟨by rfl, ?_⟩) hHeld ?_ ?_; rotate_left; (focus rintro w' ⟨s0, s1, s2, s3⟩; go_simp; with_reducible rfl); rotate_left; (focus simp only [Act.put, sA, sB, sC, i64_w, i32_w]; rfl)
                                    refine take_ (i := 4) (N := some 52) (v := ?_) (a' := ?_) #[yb, yb, yb, yb, yb, yb, nb, nb, nb, nb, nb, nb, nb, nb, nb, nb, nb, nb, nb, nb, nb, nb, nb, nb, nb, nb, nb, nb, nb, nb, nb, nb, nb, nb] rfl rfl (take_ofW HT_.out HW_.out (by kernel_rfl)) (fun _ _ _ h => h) (Or.inl ⟨by rfl, ?_⟩) hHeld ?_ ?_; rotate_left; (focus rintro w' ⟨s0, s1, s2, s3⟩; go_simp; with_reducible rfl); rotate_left; (focus simp only [Act.put, sA, sB, sC, i64_w, i32_w]; rfl)
                                    refine take_ (i := 6) (N := some 54) (v := ?_) (a' := ?_) #[yb, yb, yb, yb, yb, yb, yb, nb, nb, nb, nb, nb, nb, nb, nb, nb, nb, nb, nb, nb, nb, nb, nb, nb, nb, nb, nb, nb, nb, nb, nb, nb, nb, nb] rfl rfl (take_ofW HT_.out HW_.out (by kernel_rfl)) (fun _ _ _ h => h) (Or.inl ⟨by rfl, ?_⟩) hHeld ?_ ?_; rotate_left; (focus rintro w' ⟨s0, s1, s2, s3⟩; go_simp; with_reducible rfl); rotate_left; (focus simp only [Act.put, sA, sB, sC, i64_w, i32_w]; rfl)
                                    refine one_ (i := 7) (N := some 55) #[yb, yb, yb, yb, yb, yb, yb, yb, nb, nb, nb, nb, nb, nb, nb, nb, nb, nb, nb, nb, nb, nb, nb, nb, nb, nb, nb, nb, nb, nb, nb, nb, nb, nb] rfl rfl (one_of HT_.out (by kernel_rfl)) (by decide) (fun K hK => ?_)
                                    refine goes_ Try.func10 (by kernel_rfl) rfl #[.pointer (some ⟨g166, 0, none⟩), .int .u64 ((rd_T38 l2 x38_3).f3), .int .i64 ((rd_T38 l2 x38_3).f1), .int .i64 ((rd_T38 l2 x38_3).f2)] (by rfl) rfl rfl (by (try simp only [List.map_toArray, List.map_cons, List.map_nil]); first | done | rfl | (simp only [List.length_drop, List.length_take]; rfl)) ?_
                                    with_reducible refine (speed_Speed_Held.calls k3 g166 t173 t174 ((rd_T38 l2 x38_3).f3) ((rd_T38 l2 x38_3).f1) ((rd_T38 l2 x38_3).f2) t175 t176 t177 w _ ?side1 ?side2 A29.out).mono ?_
                                    (case side1 => repeat (first | (with_reducible first | exact HI166.out | apply IsS48.alloc | apply IsS48.drewN | apply IsS48.drew | apply IsS48.set_0 | apply IsS48.set_1 | refine IsS48.far ?_ NB166_171.out _) | exact HI166.out))
                                    (case side2 => repeat (first | (with_reducible first | exact HB.out | apply below_alloc | apply pw_below_drewN | apply below_drew1 | refine below_set ?_ (IsS48.ge HI166.out) | refine below_set ?_ GE171.out) | exact HB.out))
                                    rintro e w35 ⟨rfl, hi, hb, hk⟩
                                    refine ⟨_, rfl, ?_⟩
                                    have n0_ := Aside0.mk (KeepBut.blk hk (g' := gb171) (o := .cells #[.int .i64 ((rd_T38 l2 x38_3).f0), .int .i64 ((rd_T38 l2 x38_3).f1), .int .i64 ((rd_T38 l2 x38_3).f2), .int .u64 ((rd_T38 l2 x38_3).f3)] 38 (0, 0)) (by (with_reducible repeat (first | refine blk_drewN ?_ _ | refine blk_drew ?_ | refine blk_alloc ?_ _)); exact BK171.out) NB171_166.out (by simp))
                                    have n1_ := Aside0.mk (hb)
                                    have n2_ := Aside0.mk (hi)
                                    clear BK171
                                    clear HB
                                    clear HI166
                                    have BK171 := n0_
                                    have HB := n1_
                                    have HI166 := n2_
                                    clear n0_ n1_ n2_
                                    (try clear hb)
                                    (try clear hb2)
                                    (try clear hk)
                                    (try clear hi)
                                    refine hK.out _ _ ⟨(blk_cell BK171.out 0).trans rfl, (blk_cell BK171.out 1).trans rfl, (blk_cell BK171.out 2).trans rfl, (blk_cell BK171.out 3).trans rfl⟩ (fun hHeld => ?_)
                                    clear hK K
                                    refine norm_ (a' := ?_) ?_ ?_; rotate_left; (focus show Act.put _ (some 55) _ = _; simp only [Act.put, sA, sB, sC, i64_w, i32_w]; rfl)
                                    refine pure_ (i := 8) (N := some 56) (v := ?_) (a' := ?_) #[yb, yb, yb, yb, yb, yb, yb, yb, yb, nb, nb, nb, nb, nb, nb, nb, nb, nb, nb, nb, nb, nb, nb, nb, nb, nb, nb, nb, nb, nb, nb, nb, nb, nb] rfl rfl (any_of HT_.out (by kernel_rfl)) (fun _ _ _ h => h) (Or.inl ⟨by rfl, ?_⟩) ?_ ?_; rotate_left; (focus intro w'; go_simp; with_reducible rfl); rotate_left; (focus simp only [Act.put, sA, sB, sC, i64_w, i32_w]; rfl)
                                    refine pure_ (i := 9) (N := some 57) (v := ?_) (a' := ?_) #[yb, yb, yb, yb, yb, yb, yb, yb, yb, yb, nb, nb, nb, nb, nb, nb, nb, nb, nb, nb, nb, nb, nb, nb, nb, nb, nb, nb, nb, nb, nb, nb, nb, nb] rfl rfl (any_of HT_.out (by kernel_rfl)) (fun _ _ _ h => h) (Or.inl ⟨by rfl, ?_⟩) ?_ ?_; rotate_left; (focus intro w'; go_simp; with_reducible rfl); rotate_left; (focus simp only [Act.put, sA, sB, sC, i64_w, i32_w]; rfl)
                                    refine pure_ (i := 10) (N := some 58) (v := ?_) (a' := ?_) #[yb, yb, yb, yb, yb, yb, yb, yb, yb, yb, yb, nb, nb, nb, nb, nb, nb, nb, nb, nb, nb, nb, nb, nb, nb, nb, nb, nb, nb, nb, nb, nb, nb, nb] rfl rfl (any_of HT_.out (by kernel_rfl)) (fun _ _ _ h => h) (Or.inl ⟨by rfl, ?_⟩) ?_ ?_; rotate_left; (focus intro w'; go_simp; with_reducible rfl); rotate_left; (focus simp only [Act.put, sA, sB, sC, i64_w, i32_w]; rfl)
                                    refine pure_ (i := 12) (N := some 60) (v := ?_) (a' := ?_) #[yb, yb, yb, yb, yb, yb, yb, yb, yb, yb, yb, nb, yb, nb, nb, nb, nb, nb, nb, nb, nb, nb, nb, nb, nb, nb, nb, nb, nb, nb, nb, nb, nb, nb] rfl rfl (any_of HT_.out (by kernel_rfl)) (fun _ _ _ h => h) (Or.inl ⟨by rfl, ?_⟩) ?_ ?_; rotate_left; (focus intro w'; go_simp; with_reducible rfl); rotate_left; (focus simp only [Act.put, sA, sB, sC, i64_w, i32_w]; rfl)
                                    refine pure_ (i := 14) (N := some 62) (v := ?_) (a' := ?_) #[yb, yb, yb, yb, yb, yb, yb, yb, yb, yb, yb, nb, yb, nb, yb, nb, nb, nb, nb, nb, nb, nb, nb, nb, nb, nb, nb, nb, nb, nb, nb, nb, nb, nb] rfl rfl (any_of HT_.out (by kernel_rfl)) (fun _ _ _ h => h) (Or.inl ⟨by rfl, ?_⟩) ?_ ?_; rotate_left; (focus intro w'; go_simp; with_reducible rfl); rotate_left; (focus simp only [Act.put, sA, sB, sC, i64_w, i32_w]; rfl)
                                    refine take_ (i := 13) (N := some 61) (v := ?_) (a' := ?_) #[yb, yb, yb, yb, yb, yb, yb, yb, yb, yb, yb, nb, yb, yb, yb, nb, nb, nb, nb, nb, nb, nb, nb, nb, nb, nb, nb, nb, nb, nb, nb, nb, nb, nb] rfl rfl (take_ofW HT_.out HW_.out (by kernel_rfl)) (fun _ _ _ h => h) (Or.inl ⟨by rfl, ?_⟩) hHeld ?_ ?_; rotate_left; (focus rintro w' ⟨s0, s1, s2, s3⟩; go_simp; with_reducible rfl); rotate_left; (focus simp only [Act.put, sA, sB, sC, i64_w, i32_w]; rfl)
                                    refine pure_ (i := 15) (N := some 63) (v := ?_) (a' := ?_) #[yb, yb, yb, yb, yb, yb, yb, yb, yb, yb, yb, nb, yb, yb, yb, yb, nb, nb, nb, nb, nb, nb, nb, nb, nb, nb, nb, nb, nb, nb, nb, nb, nb, nb] rfl rfl (any_of HT_.out (by kernel_rfl)) (fun _ _ _ h => h) (Or.inl ⟨by rfl, ?_⟩) ?_ ?_; rotate_left; (focus intro w'; go_simp; with_reducible rfl); rotate_left; (focus simp only [Act.put, sA, sB, sC, i64_w, i32_w]; rfl)
                                    refine one_ (i := 11) (N := some 59) #[yb, yb, yb, yb, yb, yb, yb, yb, yb, yb, yb, yb, yb, yb, yb, yb, nb, nb, nb, nb, nb, nb, nb, nb, nb, nb, nb, nb, nb, nb, nb, nb, nb, nb] rfl rfl (one_of HT_.out (by kernel_rfl)) (by decide) (fun K hK => ?_)
                                    refine goes_ Try.func11 (by kernel_rfl) rfl #[.pointer (some ⟨g166, 0, none⟩)] (by rfl) rfl rfl (by (try simp only [List.map_toArray, List.map_cons, List.map_nil]); first | done | rfl | (simp only [List.length_drop, List.length_take]; rfl)) ?_
                                    with_reducible refine (speed_Speed_Rate.calls g166 t176 t177 t178 t179 t180 w _ ?side1 ?side2 A31.out).mono ?_
                                    (case side1 => repeat (first | (with_reducible first | exact HI166.out | apply IsS48.alloc | apply IsS48.drewN | apply IsS48.drew | apply IsS48.set_0 | apply IsS48.set_1 | refine IsS48.far ?_ NB166_171.out _) | exact HI166.out))
                                    (case side2 => repeat (first | (with_reducible first | exact HB.out | apply below_alloc | apply pw_below_drewN | apply below_drew1 | refine below_set ?_ (IsS48.ge HI166.out) | refine below_set ?_ GE171.out) | exact HB.out))
                                    rintro e w36 ⟨rfl, hi, hb, hk⟩
                                    refine ⟨_, rfl, ?_⟩
                                    have n0_ := Aside0.mk (KeepBut.blk hk (g' := gb171) (o := .cells #[.int .i64 ((rd_T38 l2 x38_3).f0), .int .i64 ((rd_T38 l2 x38_3).f1), .int .i64 ((rd_T38 l2 x38_3).f2), .int .u64 ((rd_T38 l2 x38_3).f3)] 38 (0, 0)) (by (with_reducible repeat (first | refine blk_drewN ?_ _ | refine blk_drew ?_ | refine blk_alloc ?_ _)); exact BK171.out) NB171_166.out (by simp))
                                    have n1_ := Aside0.mk (hb)
                                    have n2_ := Aside0.mk (hi)
                                    clear BK171
                                    clear HB
                                    clear HI166
                                    have BK171 := n0_
                                    have HB := n1_
                                    have HI166 := n2_
                                    clear n0_ n1_ n2_
                                    (try clear hb)
                                    (try clear hb2)
                                    (try clear hk)
                                    (try clear hi)
                                    refine hK.out _ _ ⟨(blk_cell BK171.out 0).trans rfl, (blk_cell BK171.out 1).trans rfl, (blk_cell BK171.out 2).trans rfl, (blk_cell BK171.out 3).trans rfl⟩ (fun hHeld => ?_)
                                    clear hK K
                                    refine norm_ (a' := ?_) ?_ ?_; rotate_left; (focus show Act.put _ (some 59) _ = _; simp only [Act.put, sA, sB, sC, i64_w, i32_w]; rfl)
                                    refine pure_ (i := 16) (N := some 64) (v := ?_) (a' := ?_) #[yb, yb, yb, yb, yb, yb, yb, yb, yb, yb, yb, yb, yb, yb, yb, yb, yb, nb, nb, nb, nb, nb, nb, nb, nb, nb, nb, nb, nb, nb, nb, nb, nb, nb] rfl rfl (any_of HT_.out (by kernel_rfl)) (fun _ _ _ h => h) (Or.inl ⟨by rfl, ?_⟩) ?_ ?_; rotate_left; (focus intro w'; go_simp; with_reducible rfl); rotate_left; (focus simp only [Act.put, sA, sB, sC, i64_w, i32_w]; rfl)
                                    refine pure_ (i := 17) (N := some 65) (v := ?_) (a' := ?_) #[yb, yb, yb, yb, yb, yb, yb, yb, yb, yb, yb, yb, yb, yb, yb, yb, yb, yb, nb, nb, nb, nb, nb, nb, nb, nb, nb, nb, nb, nb, nb, nb, nb, nb] rfl rfl (any_of HT_.out (by kernel_rfl)) (fun _ _ _ h => h) (Or.inl ⟨by rfl, ?_⟩) ?_ ?_; rotate_left; (focus intro w'; go_simp; with_reducible rfl); rotate_left; (focus simp only [Act.put, sA, sB, sC, i64_w, i32_w]; rfl)
                                    refine pure_ (i := 18) (N := some 66) (v := undef) (a' := ?_) #[yb, yb, yb, yb, yb, yb, yb, yb, yb, yb, yb, yb, yb, yb, yb, yb, yb, yb, yb, nb, nb, nb, nb, nb, nb, nb, nb, nb, nb, nb, nb, nb, nb, nb] rfl rfl (any_of HT_.out (by kernel_rfl)) (fun _ _ _ h => h) (Or.inr ⟨by rfl, rfl⟩) ?_ ?_; rotate_left; (focus simp only [Act.put, sA, sB, sC, i64_w, i32_w]; rfl)
                                    refine pure_ (i := 19) (N := some 67) (v := undef) (a' := ?_) #[yb, yb, yb, yb, yb, yb, yb, yb, yb, yb, yb, yb, yb, yb, yb, yb, yb, yb, yb, yb, nb, nb, nb, nb, nb, nb, nb, nb, nb, nb, nb, nb, nb, nb] rfl rfl (any_of HT_.out (by kernel_rfl)) (fun _ _ _ h => h) (Or.inr ⟨by rfl, rfl⟩) ?_ ?_; rotate_left; (focus simp only [Act.put, sA, sB, sC, i64_w, i32_w]; rfl)
                                    refine pure_ (i := 20) (N := some 68) (v := undef) (a' := ?_) #[yb, yb, yb, yb, yb, yb, yb, yb, yb, yb, yb, yb, yb, yb, yb, yb, yb, yb, yb, yb, yb, nb, nb, nb, nb, nb, nb, nb, nb, nb, nb, nb, nb, nb] rfl rfl (any_of HT_.out (by kernel_rfl)) (fun _ _ _ h => h) (Or.inr ⟨by rfl, rfl⟩) ?_ ?_; rotate_left; (focus simp only [Act.put, sA, sB, sC, i64_w, i32_w]; rfl)
                                    refine pure_ (i := 21) (N := some 69) (v := undef) (a' := ?_) #[yb, yb, yb, yb, yb, yb, yb, yb, yb, yb, yb, yb, yb, yb, yb, yb, yb, yb, yb, yb, yb, yb, nb, nb, nb, nb, nb, nb, nb, nb, nb, nb, nb, nb] rfl rfl (any_of HT_.out (by kernel_rfl)) (fun _ _ _ h => h) (Or.inr ⟨by rfl, rfl⟩) ?_ ?_; rotate_left; (focus simp only [Act.put, sA, sB, sC, i64_w, i32_w]; rfl)
                                    refine pure_ (i := 22) (N := some 70) (v := undef) (a' := ?_) #[yb, yb, yb, yb, yb, yb, yb, yb, yb, yb, yb, yb, yb, yb, yb, yb, yb, yb, yb, yb, yb, yb, yb, nb, nb, nb, nb, nb, nb, nb, nb, nb, nb, nb] rfl rfl (any_of HT_.out (by kernel_rfl)) (fun _ _ _ h => h) (Or.inr ⟨by rfl, rfl⟩) ?_ ?_; rotate_left; (focus simp only [Act.put, sA, sB, sC, i64_w, i32_w]; rfl)
                                    refine pure_ (i := 23) (N := some 71) (v := undef) (a' := ?_) #[yb, yb, yb, yb, yb, yb, yb, yb, yb, yb, yb, yb, yb, yb, yb, yb, yb, yb, yb, yb, yb, yb, yb, yb, nb, nb, nb, nb, nb, nb, nb, nb, nb, nb] rfl rfl (any_of HT_.out (by kernel_rfl)) (fun _ _ _ h => h) (Or.inr ⟨by rfl, rfl⟩) ?_ ?_; rotate_left; (focus simp only [Act.put, sA, sB, sC, i64_w, i32_w]; rfl)
                                    refine pure_ (i := 24) (N := some 72) (v := undef) (a' := ?_) #[yb, yb, yb, yb, yb, yb, yb, yb, yb, yb, yb, yb, yb, yb, yb, yb, yb, yb, yb, yb, yb, yb, yb, yb, yb, nb, nb, nb, nb, nb, nb, nb, nb, nb] rfl rfl (any_of HT_.out (by kernel_rfl)) (fun _ _ _ h => h) (Or.inr ⟨by rfl, rfl⟩) ?_ ?_; rotate_left; (focus simp only [Act.put, sA, sB, sC, i64_w, i32_w]; rfl)
                                    refine pure_ (i := 25) (N := some 73) (v := undef) (a' := ?_) #[yb, yb, yb, yb, yb, yb, yb, yb, yb, yb, yb, yb, yb, yb, yb, yb, yb, yb, yb, yb, yb, yb, yb, yb, yb, yb, nb, nb, nb, nb, nb, nb, nb, nb] rfl rfl (any_of HT_.out (by kernel_rfl)) (fun _ _ _ h => h) (Or.inr ⟨by rfl, rfl⟩) ?_ ?_; rotate_left; (focus simp only [Act.put, sA, sB, sC, i64_w, i32_w]; rfl)
                                    refine pure_ (i := 26) (N := some 74) (v := undef) (a' := ?_) #[yb, yb, yb, yb, yb, yb, yb, yb, yb, yb, yb, yb, yb, yb, yb, yb, yb, yb, yb, yb, yb, yb, yb, yb, yb, yb, yb, nb, nb, nb, nb, nb, nb, nb] rfl rfl (any_of HT_.out (by kernel_rfl)) (fun _ _ _ h => h) (Or.inr ⟨by rfl, rfl⟩) ?_ ?_; rotate_left; (focus simp only [Act.put, sA, sB, sC, i64_w, i32_w]; rfl)
                                    refine pure_ (i := 27) (N := some 75) (v := undef) (a' := ?_) #[yb, yb, yb, yb, yb, yb, yb, yb, yb, yb, yb, yb, yb, yb, yb, yb, yb, yb, yb, yb, yb, yb, yb, yb, yb, yb, yb, yb, nb, nb, nb, nb, nb, nb] rfl rfl (any_of HT_.out (by kernel_rfl)) (fun _ _ _ h => h) (Or.inr ⟨by rfl, rfl⟩) ?_ ?_; rotate_left; (focus simp only [Act.put, sA, sB, sC, i64_w, i32_w]; rfl)
                                    refine pure_ (i := 28) (N := some 76) (v := undef) (a' := ?_) #[yb, yb, yb, yb, yb, yb, yb, yb, yb, yb, yb, yb, yb, yb, yb, yb, yb, yb, yb, yb, yb, yb, yb, yb, yb, yb, yb, yb, yb, nb, nb, nb, nb, nb] rfl rfl (any_of HT_.out (by kernel_rfl)) (fun _ _ _ h => h) (Or.inr ⟨by rfl, rfl⟩) ?_ ?_; rotate_left; (focus simp only [Act.put, sA, sB, sC, i64_w, i32_w]; rfl)
                                    refine pure_ (i := 29) (N := some 77) (v := undef) (a' := ?_) #[yb, yb, yb, yb, yb, yb, yb, yb, yb, yb, yb, yb, yb, yb, yb, yb, yb, yb, yb, yb, yb, yb, yb, yb, yb, yb, yb, yb, yb, yb, nb, nb, nb, nb] rfl rfl (any_of HT_.out (by kernel_rfl)) (fun _ _ _ h => h) (Or.inr ⟨by rfl, rfl⟩) ?_ ?_; rotate_left; (focus simp only [Act.put, sA, sB, sC, i64_w, i32_w]; rfl)
                                    refine pure_ (i := 30) (N := some 78) (v := undef) (a' := ?_) #[yb, yb, yb, yb, yb, yb, yb, yb, yb, yb, yb, yb, yb, yb, yb, yb, yb, yb, yb, yb, yb, yb, yb, yb, yb, yb, yb, yb, yb, yb, yb, nb, nb, nb] rfl rfl (any_of HT_.out (by kernel_rfl)) (fun _ _ _ h => h) (Or.inr ⟨by rfl, rfl⟩) ?_ ?_; rotate_left; (focus simp only [Act.put, sA, sB, sC, i64_w, i32_w]; rfl)
                                    refine pure_ (i := 31) (N := some 79) (v := undef) (a' := ?_) #[yb, yb, yb, yb, yb, yb, yb, yb, yb, yb, yb, yb, yb, yb, yb, yb, yb, yb, yb, yb, yb, yb, yb, yb, yb, yb, yb, yb, yb, yb, yb, yb, nb, nb] rfl rfl (any_of HT_.out (by kernel_rfl)) (fun _ _ _ h => h) (Or.inr ⟨by rfl, rfl⟩) ?_ ?_; rotate_left; (focus simp only [Act.put, sA, sB, sC, i64_w, i32_w]; rfl)
                                    refine pure_ (i := 32) (N := some 80) (v := ?_) (a' := ?_) #[yb, yb, yb, yb, yb, yb, yb, yb, yb, yb, yb, yb, yb, yb, yb, yb, yb, yb, yb, yb, yb, yb, yb, yb, yb, yb, yb, yb, yb, yb, yb, yb, yb, nb] rfl rfl (any_of HT_.out (by kernel_rfl)) (fun _ _ _ h => h) (Or.inl ⟨by rfl, ?_⟩) ?_ ?_; rotate_left; (focus intro w'; go_simp; with_reducible rfl); rotate_left; (focus simp only [Act.put, sA, sB, sC, i64_w, i32_w]; rfl)
                                    refine pure_ (i := 33) (N := some 81) (v := ?_) (a' := ?_) #[yb, yb, yb, yb, yb, yb, yb, yb, yb, yb, yb, yb, yb, yb, yb, yb, yb, yb, yb, yb, yb, yb, yb, yb, yb, yb, yb, yb, yb, yb, yb, yb, yb, yb] rfl rfl (any_of HT_.out (by kernel_rfl)) (fun _ _ _ h => h) (Or.inl ⟨by rfl, ?_⟩) ?_ ?_; rotate_left; (focus intro w'; go_simp; with_reducible rfl); rotate_left; (focus simp only [Act.put, sA, sB, sC, i64_w, i32_w]; rfl)
                                    refine done_ (done_of HT_.out (by kernel_rfl)) ?_
                                    try go_wp2
                                    go_meet
                                    case rel => exact ⟨_, (true), (t179), (t180), (by first | rfl | (simp; done) | (simp [*]; done)), H', ⟨by have := HJ8.out; have := HJ14.out; have := HK3.out; first | omega | exact Nat.le_refl _⟩, ⟨by (with_reducible repeat (first | refine blk_drewN ?_ _ | refine blk_drew ?_ | refine blk_alloc ?_ _)); exact BK171.out⟩, ⟨by repeat (first | (with_reducible first | exact HI166.out | apply IsS48.alloc | apply IsS48.drewN | apply IsS48.drew | apply IsS48.set_0 | apply IsS48.set_1 | refine IsS48.far ?_ NB166_171.out _) | exact HI166.out)⟩, ⟨by repeat (first | (with_reducible first | exact HB.out | apply below_alloc | apply pw_below_drewN | apply below_drew1 | refine below_set ?_ (IsS48.ge HI166.out) | refine below_set ?_ GE171.out) | exact HB.out)⟩⟩
                                  · rw [if_neg c33] at H
                                    have c33b0 : decide ((ji32) < t178) = false := decide_eq_false c33
                                    clear c33
                                    replace H := Option.bind_eq_some_iff.mp H
                                    obtain ⟨⟨t181, t182, t183⟩, A370, H⟩ := H
                                    replace H : ((fix_Ratio.f k3 (IntKind.u64.wrap ((rd_T38 l2 x38_3).f1)) (IntKind.u64.wrap ((rd_T38 l2 x38_3).f2))).bind fun t184 => ((fix_F_Add.f t172 t184).bind fun t185 => (terracelaw19_SpeedBounds.j3 k3 a0 l2 (l2.length : Int) x38_3 (decide (t181 > (mx t185 a0))) t182 t183))) = some r := H
                                    have A37 := Aside0.mk A370
                                    clear A370
                                    replace H := Option.bind_eq_some_iff.mp H
                                    obtain ⟨t184, A380, H⟩ := H
                                    replace H : ((fix_F_Add.f t172 t184).bind fun t185 => (terracelaw19_SpeedBounds.j3 k3 a0 l2 (l2.length : Int) x38_3 (decide (t181 > (mx t185 a0))) t182 t183)) = some r := H
                                    have A38 := Aside0.mk A380
                                    clear A380
                                    replace H := Option.bind_eq_some_iff.mp H
                                    obtain ⟨t185, A390, H⟩ := H
                                    replace H : (terracelaw19_SpeedBounds.j3 k3 a0 l2 (l2.length : Int) x38_3 (decide (t181 > (mx t185 a0))) t182 t183) = some r := H
                                    have A39 := Aside0.mk A390
                                    clear A390
                                    obtain ⟨ji40, hji40⟩ : ∃ j_ : Int, (mx t185 a0) = j_ := ⟨_, rfl⟩
                                    replace H : (terracelaw19_SpeedBounds.j3 k3 a0 l2 (l2.length : Int) x38_3 (decide (t181 > (ji40))) t182 t183) = some r := by first | (rw [hji40] at H; exact H) | (simp only [hji40] at H ⊢; exact H)
                                    (try rw [hji40] at A29)
                                    (try rw [hji40] at A31)
                                    (try rw [hji40] at A37)
                                    (try rw [hji40] at A38)
                                    (try rw [hji40] at A39)
                                    have hji40_ : (if t185 < a0 then a0 else t185) = ji40 := hji40
                                    have H' := Aside0.mk H
                                    clear H
                                    try go_wp2
                                    have n0_ := Aside0.mk (blk_drew BK171.out)
                                    have n1_ := Aside0.mk (IsS48.drew HI166.out)
                                    have n2_ := Aside0.mk (below_drew1 HB.out)
                                    clear BK171
                                    clear HI166
                                    clear HB
                                    have BK171 := n0_
                                    have HI166 := n1_
                                    have HB := n2_
                                    clear n0_ n1_ n2_
                                    refine start_ (n := 34) (S := fun w' => w'.cell? ⟨gb171, 0, none⟩ = some (.int .i64 ((rd_T38 l2 x38_3).f0)) ∧ w'.cell? ⟨gb171, 1, none⟩ = some (.int .i64 ((rd_T38 l2 x38_3).f1)) ∧ w'.cell? ⟨gb171, 2, none⟩ = some (.int .i64 ((rd_T38 l2 x38_3).f2)) ∧ w'.cell? ⟨gb171, 3, none⟩ = some (.int .u64 ((rd_T38 l2 x38_3).f3))) (ds := []) #[nb, nb, nb, nb, nb, nb, nb, nb, nb, nb, nb, nb, nb, nb, nb, nb, nb, nb, nb, nb, nb, nb, nb, nb, nb, nb, nb, nb, nb, nb, nb, nb, nb, nb] (by kernel_rfl) rfl rfl ⟨(blk_cell BK171.out 0).trans rfl, (blk_cell BK171.out 1).trans rfl, (blk_cell BK171.out 2).trans rfl, (blk_cell BK171.out 3).trans rfl⟩ (fun hHeld => ?_); refine with_tabW terracelaw19_SpeedBounds.tab14 terracelaw19_SpeedBounds.bits14 (fun HT_ HW_ => ?_)
                                    generalize w27.drew = w41 at BK171 HI166 HB hHeld ⊢
                                    refine pure_ (i := 0) (N := some 48) (v := ?_) (a' := ?_) #[yb, nb, nb, nb, nb, nb, nb, nb, nb, nb, nb, nb, nb, nb, nb, nb, nb, nb, nb, nb, nb, nb, nb, nb, nb, nb, nb, nb, nb, nb, nb, nb, nb, nb] rfl rfl (any_of HT_.out (by kernel_rfl)) (fun _ _ _ h => h) (Or.inl ⟨by rfl, ?_⟩) ?_ ?_; rotate_left; (focus intro w'; go_simp; with_reducible rfl); rotate_left; (focus simp only [Act.put, sA, sB, sC, i64_w, i32_w]; rfl)
                                    refine pure_ (i := 1) (N := some 49) (v := ?_) (a' := ?_) #[yb, yb, nb, nb, nb, nb, nb, nb, nb, nb, nb, nb, nb, nb, nb, nb, nb, nb, nb, nb, nb, nb, nb, nb, nb, nb, nb, nb, nb, nb, nb, nb, nb, nb] rfl rfl (any_of HT_.out (by kernel_rfl)) (fun _ _ _ h => h) (Or.inl ⟨by rfl, ?_⟩) ?_ ?_; rotate_left; (focus intro w'; go_simp; with_reducible rfl); rotate_left; (focus simp only [Act.put, sA, sB, sC, i64_w, i32_w]; rfl)
                                    refine pure_ (i := 3) (N := some 51) (v := ?_) (a' := ?_) #[yb, yb, nb, yb, nb, nb, nb, nb, nb, nb, nb, nb, nb, nb, nb, nb, nb, nb, nb, nb, nb, nb, nb, nb, nb, nb, nb, nb, nb, nb, nb, nb, nb, nb] rfl rfl (any_of HT_.out (by kernel_rfl)) (fun _ _ _ h => h) (Or.inl ⟨by rfl, ?_⟩) ?_ ?_; rotate_left; (focus intro w'; go_simp; with_reducible rfl); rotate_left; (focus simp only [Act.put, sA, sB, sC, i64_w, i32_w]; rfl)
                                    refine pure_ (i := 5) (N := some 53) (v := ?_) (a' := ?_) #[yb, yb, nb, yb, nb, yb, nb, nb, nb, nb, nb, nb, nb, nb, nb, nb, nb, nb, nb, nb, nb, nb, nb, nb, nb, nb, nb, nb, nb, nb, nb, nb, nb, nb] rfl rfl (any_of HT_.out (by kernel_rfl)) (fun _ _ _ h => h) (Or.inl ⟨by rfl, ?_⟩) ?_ ?_; rotate_left; (focus intro w'; go_simp; with_reducible rfl); rotate_left; (focus simp only [Act.put, sA, sB, sC, i64_w, i32_w]; rfl)
                                    refine take_ (i := 2) (N := some 50) (v := ?_) (a' := ?_) #[yb, yb, yb, yb, nb, yb, nb, nb, nb, nb, nb, nb, nb, nb, nb, nb, nb, nb, nb, nb, nb, nb, nb, nb, nb, nb, nb, nb, nb, nb, nb, nb, nb, nb] rfl rfl (take_ofW HT_.out HW_.out (by kernel_rfl)) (fun _ _ _ h => h) (Or.inl ⟨by rfl, ?_⟩) hHeld ?_ ?_; rotate_left; (focus rintro w' ⟨s0, s1, s2, s3⟩; go_simp; with_reducible rfl); rotate_left; (focus simp only [Act.put, sA, sB, sC, i64_w, i32_w]; rfl)
                                    refine take_ (i := 4) (N := some 52) (v := ?_) (a' := ?_) #[yb, yb, yb, yb, yb, yb, nb, nb, nb, nb, nb, nb, nb, nb, nb, nb, nb, nb, nb, nb, nb, nb, nb, nb, nb, nb, nb, nb, nb, nb, nb, nb, nb, nb] rfl rfl (take_ofW HT_.out HW_.out (by kernel_rfl)) (fun _ _ _ h => h) (Or.inl ⟨by rfl, ?_⟩) hHeld ?_ ?_; rotate_left; (focus rintro w' ⟨s0, s1, s2, s3⟩; go_simp; with_reducible rfl); rotate_left; (focus simp only [Act.put, sA, sB, sC, i64_w, i32_w]; rfl)
                                    refine take_ (i := 6) (N := some 54) (v := ?_) (a' := ?_) #[yb, yb, yb, yb, yb, yb, yb, nb, nb, nb, nb, nb, nb, nb, nb, nb, nb, nb, nb, nb, nb, nb, nb, nb, nb, nb, nb, nb, nb, nb, nb, nb, nb, nb] rfl rfl (take_ofW HT_.out HW_.out (by kernel_rfl)) (fun _ _ _ h => h) (Or.inl ⟨by rfl, ?_⟩) hHeld ?_ ?_; rotate_left; (focus rintro w' ⟨s0, s1, s2, s3⟩; go_simp; with_reducible rfl); rotate_left; (focus simp only [Act.put, sA, sB, sC, i64_w, i32_w]; rfl)
                                    refine one_ (i := 7) (N := some 55) #[yb, yb, yb, yb, yb, yb, yb, yb, nb, nb, nb, nb, nb, nb, nb, nb, nb, nb, nb, nb, nb, nb, nb, nb, nb, nb, nb, nb, nb, nb, nb, nb, nb, nb] rfl rfl (one_of HT_.out (by kernel_rfl)) (by decide) (fun K hK => ?_)
                                    refine goes_ Try.func10 (by kernel_rfl) rfl #[.pointer (some ⟨g166, 0, none⟩), .int .u64 ((rd_T38 l2 x38_3).f3), .int .i64 ((rd_T38 l2 x38_3).f1), .int .i64 ((rd_T38 l2 x38_3).f2)] (by rfl) rfl rfl (by (try simp only [List.map_toArray, List.map_cons, List.map_nil]); first | done | rfl | (simp only [List.length_drop, List.length_take]; rfl)) ?_
                                    with_reducible refine (speed_Speed_Held.calls k3 g166 t173 t174 ((rd_T38 l2 x38_3).f3) ((rd_T38 l2 x38_3).f1) ((rd_T38 l2 x38_3).f2) t175 t176 t177 w _ ?side1 ?side2 A29.out).mono ?_
                                    (case side1 => repeat (first | (with_reducible first | exact HI166.out | apply IsS48.alloc | apply IsS48.drewN | apply IsS48.drew | apply IsS48.set_0 | apply IsS48.set_1 | refine IsS48.far ?_ NB166_171.out _) | exact HI166.out))
                                    (case side2 => repeat (first | (with_reducible first | exact HB.out | apply below_alloc | apply pw_below_drewN | apply below_drew1 | refine below_set ?_ (IsS48.ge HI166.out) | refine below_set ?_ GE171.out) | exact HB.out))
                                    rintro e w42 ⟨rfl, hi, hb, hk⟩
                                    refine ⟨_, rfl, ?_⟩
                                    have n0_ := Aside0.mk (KeepBut.blk hk (g' := gb171) (o := .cells #[.int .i64 ((rd_T38 l2 x38_3).f0), .int .i64 ((rd_T38 l2 x38_3).f1), .int .i64 ((rd_T38 l2 x38_3).f2), .int .u64 ((rd_T38 l2 x38_3).f3)] 38 (0, 0)) (by (with_reducible repeat (first | refine blk_drewN ?_ _ | refine blk_drew ?_ | refine blk_alloc ?_ _)); exact BK171.out) NB171_166.out (by simp))
                                    have n1_ := Aside0.mk (hb)
                                    have n2_ := Aside0.mk (hi)
                                    clear BK171
                                    clear HB
                                    clear HI166
                                    have BK171 := n0_
                                    have HB := n1_
                                    have HI166 := n2_
                                    clear n0_ n1_ n2_
                                    (try clear hb)
                                    (try clear hb2)
                                    (try clear hk)
                                    (try clear hi)
                                    refine hK.out _ _ ⟨(blk_cell BK171.out 0).trans rfl, (blk_cell BK171.out 1).trans rfl, (blk_cell BK171.out 2).trans rfl, (blk_cell BK171.out 3).trans rfl⟩ (fun hHeld => ?_)
                                    clear hK K
                                    refine norm_ (a' := ?_) ?_ ?_; rotate_left; (focus show Act.put _ (some 55) _ = _; simp only [Act.put, sA, sB, sC, i64_w, i32_w]; rfl)
                                    refine pure_ (i := 8) (N := some 56) (v := ?_) (a' := ?_) #[yb, yb, yb, yb, yb, yb, yb, yb, yb, nb, nb, nb, nb, nb, nb, nb, nb, nb, nb, nb, nb, nb, nb, nb, nb, nb, nb, nb, nb, nb, nb, nb, nb, nb] rfl rfl (any_of HT_.out (by kernel_rfl)) (fun _ _ _ h => h) (Or.inl ⟨by rfl, ?_⟩) ?_ ?_; rotate_left; (focus intro w'; go_simp; with_reducible rfl); rotate_left; (focus simp only [Act.put, sA, sB, sC, i64_w, i32_w]; rfl)
                                    refine pure_ (i := 9) (N := some 57) (v := ?_) (a' := ?_) #[yb, yb, yb, yb, yb, yb, yb, yb, yb, yb, nb, nb, nb, nb, nb, nb, nb, nb, nb, nb, nb, nb, nb, nb, nb, nb, nb, nb, nb, nb, nb, nb, nb, nb] rfl rfl (any_of HT_.out (by kernel_rfl)) (fun _ _ _ h => h) (Or.inl ⟨by rfl, ?_⟩) ?_ ?_; rotate_left; (focus intro w'; go_simp; with_reducible rfl); rotate_left; (focus simp only [Act.put, sA, sB, sC, i64_w, i32_w]; rfl)
                                    refine pure_ (i := 10) (N := some 58) (v := ?_) (a' := ?_) #[yb, yb, yb, yb, yb, yb, yb, yb, yb, yb, yb, nb, nb, nb, nb, nb, nb, nb, nb, nb, nb, nb, nb, nb, nb, nb, nb, nb, nb, nb, nb, nb, nb, nb] rfl rfl (any_of HT_.out (by kernel_rfl)) (fun _ _ _ h => h) (Or.inl ⟨by rfl, ?_⟩) ?_ ?_; rotate_left; (focus intro w'; go_simp; with_reducible rfl); rotate_left; (focus simp only [Act.put, sA, sB, sC, i64_w, i32_w]; rfl)
                                    refine pure_ (i := 12) (N := some 60) (v := ?_) (a' := ?_) #[yb, yb, yb, yb, yb, yb, yb, yb, yb, yb, yb, nb, yb, nb, nb, nb, nb, nb, nb, nb, nb, nb, nb, nb, nb, nb, nb, nb, nb, nb, nb, nb, nb, nb] rfl rfl (any_of HT_.out (by kernel_rfl)) (fun _ _ _ h => h) (Or.inl ⟨by rfl, ?_⟩) ?_ ?_; rotate_left; (focus intro w'; go_simp; with_reducible rfl); rotate_left; (focus simp only [Act.put, sA, sB, sC, i64_w, i32_w]; rfl)
                                    refine pure_ (i := 14) (N := some 62) (v := ?_) (a' := ?_) #[yb, yb, yb, yb, yb, yb, yb, yb, yb, yb, yb, nb, yb, nb, yb, nb, nb, nb, nb, nb, nb, nb, nb, nb, nb, nb, nb, nb, nb, nb, nb, nb, nb, nb] rfl rfl (any_of HT_.out (by kernel_rfl)) (fun _ _ _ h => h) (Or.inl ⟨by rfl, ?_⟩) ?_ ?_; rotate_left; (focus intro w'; go_simp; with_reducible rfl); rotate_left; (focus simp only [Act.put, sA, sB, sC, i64_w, i32_w]; rfl)
                                    refine take_ (i := 13) (N := some 61) (v := ?_) (a' := ?_) #[yb, yb, yb, yb, yb, yb, yb, yb, yb, yb, yb, nb, yb, yb, yb, nb, nb, nb, nb, nb, nb, nb, nb, nb, nb, nb, nb, nb, nb, nb, nb, nb, nb, nb] rfl rfl (take_ofW HT_.out HW_.out (by kernel_rfl)) (fun _ _ _ h => h) (Or.inl ⟨by rfl, ?_⟩) hHeld ?_ ?_; rotate_left; (focus rintro w' ⟨s0, s1, s2, s3⟩; go_simp; with_reducible rfl); rotate_left; (focus simp only [Act.put, sA, sB, sC, i64_w, i32_w]; rfl)
                                    refine pure_ (i := 15) (N := some 63) (v := ?_) (a' := ?_) #[yb, yb, yb, yb, yb, yb, yb, yb, yb, yb, yb, nb, yb, yb, yb, yb, nb, nb, nb, nb, nb, nb, nb, nb, nb, nb, nb, nb, nb, nb, nb, nb, nb, nb] rfl rfl (any_of HT_.out (by kernel_rfl)) (fun _ _ _ h => h) (Or.inl ⟨by rfl, ?_⟩) ?_ ?_; rotate_left; (focus intro w'; go_simp; with_reducible rfl); rotate_left; (focus simp only [Act.put, sA, sB, sC, i64_w, i32_w]; rfl)
                                    refine one_ (i := 11) (N := some 59) #[yb, yb, yb, yb, yb, yb, yb, yb, yb, yb, yb, yb, yb, yb, yb, yb, nb, nb, nb, nb, nb, nb, nb, nb, nb, nb, nb, nb, nb, nb, nb, nb, nb, nb] rfl rfl (one_of HT_.out (by kernel_rfl)) (by decide) (fun K hK => ?_)
                                    refine goes_ Try.func11 (by kernel_rfl) rfl #[.pointer (some ⟨g166, 0, none⟩)] (by rfl) rfl rfl (by (try simp only [List.map_toArray, List.map_cons, List.map_nil]); first | done | rfl | (simp only [List.length_drop, List.length_take]; rfl)) ?_
                                    with_reducible refine (speed_Speed_Rate.calls g166 t176 t177 t178 t179 t180 w _ ?side1 ?side2 A31.out).mono ?_
                                    (case side1 => repeat (first | (with_reducible first | exact HI166.out | apply IsS48.alloc | apply IsS48.drewN | apply IsS48.drew | apply IsS48.set_0 | apply IsS48.set_1 | refine IsS48.far ?_ NB166_171.out _) | exact HI166.out))
                                    (case side2 => repeat (first | (with_reducible first | exact HB.out | apply below_alloc | apply pw_below_drewN | apply below_drew1 | refine below_set ?_ (IsS48.ge HI166.out) | refine below_set ?_ GE171.out) | exact HB.out))
                                    rintro e w43 ⟨rfl, hi, hb, hk⟩
                                    refine ⟨_, rfl, ?_⟩
                                    have n0_ := Aside0.mk (KeepBut.blk hk (g' := gb171) (o := .cells #[.int .i64 ((rd_T38 l2 x38_3).f0), .int .i64 ((rd_T38 l2 x38_3).f1), .int .i64 ((rd_T38 l2 x38_3).f2), .int .u64 ((rd_T38 l2 x38_3).f3)] 38 (0, 0)) (by (with_reducible repeat (first | refine blk_drewN ?_ _ | refine blk_drew ?_ | refine blk_alloc ?_ _)); exact BK171.out) NB171_166.out (by simp))
                                    have n1_ := Aside0.mk (hb)
                                    have n2_ := Aside0.mk (hi)
                                    clear BK171
                                    clear HB
                                    clear HI166
                                    have BK171 := n0_
                                    have HB := n1_
                                    have HI166 := n2_
                                    clear n0_ n1_ n2_
                                    (try clear hb)
                                    (try clear hb2)
                                    (try clear hk)
                                    (try clear hi)
                                    refine hK.out _ _ ⟨(blk_cell BK171.out 0).trans rfl, (blk_cell BK171.out 1).trans rfl, (blk_cell BK171.out 2).trans rfl, (blk_cell BK171.out 3).trans rfl⟩ (fun hHeld => ?_)
                                    clear hK K
                                    refine norm_ (a' := ?_) ?_ ?_; rotate_left; (focus show Act.put _ (some 59) _ = _; simp only [Act.put, sA, sB, sC, i64_w, i32_w]; rfl)
                                    refine pure_ (i := 16) (N := some 64) (v := ?_) (a' := ?_) #[yb, yb, yb, yb, yb, yb, yb, yb, yb, yb, yb, yb, yb, yb, yb, yb, yb, nb, nb, nb, nb, nb, nb, nb, nb, nb, nb, nb, nb, nb, nb, nb, nb, nb] rfl rfl (any_of HT_.out (by kernel_rfl)) (fun _ _ _ h => h) (Or.inl ⟨by rfl, ?_⟩) ?_ ?_; rotate_left; (focus intro w'; go_simp; with_reducible rfl); rotate_left; (focus simp only [Act.put, sA, sB, sC, i64_w, i32_w]; rfl)
                                    refine pure_ (i := 17) (N := some 65) (v := ?_) (a' := ?_) #[yb, yb, yb, yb, yb, yb, yb, yb, yb, yb, yb, yb, yb, yb, yb, yb, yb, yb, nb, nb, nb, nb, nb, nb, nb, nb, nb, nb, nb, nb, nb, nb, nb, nb] rfl rfl (any_of HT_.out (by kernel_rfl)) (fun _ _ _ h => h) (Or.inl ⟨by rfl, ?_⟩) ?_ ?_; rotate_left; (focus intro w'; go_simp; with_reducible rfl); rotate_left; (focus simp only [Act.put, sA, sB, sC, i64_w, i32_w]; rfl)
                                    refine pure_ (i := 18) (N := some 66) (v := ?_) (a' := ?_) #[yb, yb, yb, yb, yb, yb, yb, yb, yb, yb, yb, yb, yb, yb, yb, yb, yb, yb, yb, nb, nb, nb, nb, nb, nb, nb, nb, nb, nb, nb, nb, nb, nb, nb] rfl rfl (any_of HT_.out (by kernel_rfl)) (fun _ _ _ h => h) (Or.inl ⟨by rfl, ?_⟩) ?_ ?_; rotate_left; (focus intro w'; go_simp; with_reducible rfl); rotate_left; (focus simp only [Act.put, sA, sB, sC, i64_w, i32_w]; rfl)
                                    refine pure_ (i := 20) (N := some 68) (v := ?_) (a' := ?_) #[yb, yb, yb, yb, yb, yb, yb, yb, yb, yb, yb, yb, yb, yb, yb, yb, yb, yb, yb, nb, yb, nb, nb, nb, nb, nb, nb, nb, nb, nb, nb, nb, nb, nb] rfl rfl (any_of HT_.out (by kernel_rfl)) (fun _ _ _ h => h) (Or.inl ⟨by rfl, ?_⟩) ?_ ?_; rotate_left; (focus intro w'; go_simp; with_reducible rfl); rotate_left; (focus simp only [Act.put, sA, sB, sC, i64_w, i32_w]; rfl)
                                    refine pure_ (i := 21) (N := some 69) (v := ?_) (a' := ?_) #[yb, yb, yb, yb, yb, yb, yb, yb, yb, yb, yb, yb, yb, yb, yb, yb, yb, yb, yb, nb, yb, yb, nb, nb, nb, nb, nb, nb, nb, nb, nb, nb, nb, nb] rfl rfl (any_of HT_.out (by kernel_rfl)) (fun _ _ _ h => h) (Or.inl ⟨by rfl, ?_⟩) ?_ ?_; rotate_left; (focus intro w'; go_simp; with_reducible rfl); rotate_left; (focus simp only [Act.put, sA, sB, sC, i64_w, i32_w]; rfl)
                                    refine pure_ (i := 24) (N := some 72) (v := ?_) (a' := ?_) #[yb, yb, yb, yb, yb, yb, yb, yb, yb, yb, yb, yb, yb, yb, yb, yb, yb, yb, yb, nb, yb, yb, nb, nb, yb, nb, nb, nb, nb, nb, nb, nb, nb, nb] rfl rfl (any_of HT_.out (by kernel_rfl)) (fun _ _ _ h => h) (Or.inl ⟨by rfl, ?_⟩) ?_ ?_; rotate_left; (focus intro w'; go_simp; with_reducible rfl); rotate_left; (focus simp only [Act.put, sA, sB, sC, i64_w, i32_w]; rfl)
                                    refine pure_ (i := 29) (N := some 77) (v := ?_) (a' := ?_) #[yb, yb, yb, yb, yb, yb, yb, yb, yb, yb, yb, yb, yb, yb, yb, yb, yb, yb, yb, nb, yb, yb, nb, nb, yb, nb, nb, nb, nb, yb, nb, nb, nb, nb] rfl rfl (any_of HT_.out (by kernel_rfl)) (fun _ _ _ h => h) (Or.inl ⟨by rfl, ?_⟩) ?_ ?_; rotate_left; (focus intro w'; go_simp; with_reducible rfl); rotate_left; (focus simp only [Act.put, sA, sB, sC, i64_w, i32_w]; rfl)
                                    refine take_ (i := 22) (N := some 70) (v := ?_) (a' := ?_) #[yb, yb, yb, yb, yb, yb, yb, yb, yb, yb, yb, yb, yb, yb, yb, yb, yb, yb, yb, nb, yb, yb, yb, nb, yb, nb, nb, nb, nb, yb, nb, nb, nb, nb] rfl rfl (take_ofW HT_.out HW_.out (by kernel_rfl)) (fun _ _ _ h => h) (Or.inl ⟨by rfl, ?_⟩) hHeld ?_ ?_; rotate_left; (focus rintro w' ⟨s0, s1, s2, s3⟩; go_simp; with_reducible rfl); rotate_left; (focus simp only [Act.put, sA, sB, sC, i64_w, i32_w]; rfl)
                                    refine pure_ (i := 23) (N := some 71) (v := ?_) (a' := ?_) #[yb, yb, yb, yb, yb, yb, yb, yb, yb, yb, yb, yb, yb, yb, yb, yb, yb, yb, yb, nb, yb, yb, yb, yb, yb, nb, nb, nb, nb, yb, nb, nb, nb, nb] rfl rfl (any_of HT_.out (by kernel_rfl)) (fun _ _ _ h => h) (Or.inl ⟨by rfl, ?_⟩) ?_ ?_; rotate_left; (focus intro w'; go_simp; with_reducible rfl); rotate_left; (focus simp only [Act.put, sA, sB, sC, i64_w, i32_w]; rfl)
                                    refine take_ (i := 25) (N := some 73) (v := ?_) (a' := ?_) #[yb, yb, yb, yb, yb, yb, yb, yb, yb, yb, yb, yb, yb, yb, yb, yb, yb, yb, yb, nb, yb, yb, yb, yb, yb, yb, nb, nb, nb, yb, nb, nb, nb, nb] rfl rfl (take_ofW HT_.out HW_.out (by kernel_rfl)) (fun _ _ _ h => h) (Or.inl ⟨by rfl, ?_⟩) hHeld ?_ ?_; rotate_left; (focus rintro w' ⟨s0, s1, s2, s3⟩; go_simp; with_reducible rfl); rotate_left; (focus simp only [Act.put, sA, sB, sC, i64_w, i32_w]; rfl)
                                    refine pure_ (i := 26) (N := some 74) (v := ?_) (a' := ?_) #[yb, yb, yb, yb, yb, yb, yb, yb, yb, yb, yb, yb, yb, yb, yb, yb, yb, yb, yb, nb, yb, yb, yb, yb, yb, yb, yb, nb, nb, yb, nb, nb, nb, nb] rfl rfl (any_of HT_.out (by kernel_rfl)) (fun _ _ _ h => h) (Or.inl ⟨by rfl, ?_⟩) ?_ ?_; rotate_left; (focus intro w'; go_simp; with_reducible rfl); rotate_left; (focus simp only [Act.put, sA, sB, sC, i64_w, i32_w]; rfl)
                                    refine one_ (i := 19) (N := some 67) #[yb, yb, yb, yb, yb, yb, yb, yb, yb, yb, yb, yb, yb, yb, yb, yb, yb, yb, yb, yb, yb, yb, yb, yb, yb, yb, yb, nb, nb, yb, nb, nb, nb, nb] rfl rfl (one_of HT_.out (by kernel_rfl)) (by decide) (fun K hK => ?_)
                                    refine goes_ Try.func11 (by kernel_rfl) rfl #[.pointer (some ⟨g166, 0, none⟩)] (by rfl) rfl rfl (by (try simp only [List.map_toArray, List.map_cons, List.map_nil]); first | done | rfl | (simp only [List.length_drop, List.length_take]; rfl)) ?_
                                    with_reducible refine (speed_Speed_Rate.calls g166 t179 t180 t181 t182 t183 w _ ?side1 ?side2 A37.out).mono ?_
                                    (case side1 => repeat (first | (with_reducible first | exact HI166.out | apply IsS48.alloc | apply IsS48.drewN | apply IsS48.drew | apply IsS48.set_0 | apply IsS48.set_1 | refine IsS48.far ?_ NB166_171.out _) | exact HI166.out))
                                    (case side2 => repeat (first | (with_reducible first | exact HB.out | apply below_alloc | apply pw_below_drewN | apply below_drew1 | refine below_set ?_ (IsS48.ge HI166.out) | refine below_set ?_ GE171.out) | exact HB.out))
                                    rintro e w44 ⟨rfl, hi, hb, hk⟩
                                    refine ⟨_, rfl, ?_⟩
                                    have n0_ := Aside0.mk (KeepBut.blk hk (g' := gb171) (o := .cells #[.int .i64 ((rd_T38 l2 x38_3).f0), .int .i64 ((rd_T38 l2 x38_3).f1), .int .i64 ((rd_T38 l2 x38_3).f2), .int .u64 ((rd_T38 l2 x38_3).f3)] 38 (0, 0)) (by (with_reducible repeat (first | refine blk_drewN ?_ _ | refine blk_drew ?_ | refine blk_alloc ?_ _)); exact BK171.out) NB171_166.out (by simp))
                                    have n1_ := Aside0.mk (hb)
                                    have n2_ := Aside0.mk (hi)
                                    clear BK171
                                    clear HB
                                    clear HI166
                                    have BK171 := n0_
                                    have HB := n1_
                                    have HI166 := n2_
                                    clear n0_ n1_ n2_
                                    (try clear hb)
                                    (try clear hb2)
                                    (try clear hk)
                                    (try clear hi)
                                    refine hK.out _ _ ⟨(blk_cell BK171.out 0).trans rfl, (blk_cell BK171.out 1).trans rfl, (blk_cell BK171.out 2).trans rfl, (blk_cell BK171.out 3).trans rfl⟩ (fun hHeld => ?_)
                                    clear hK K
                                    refine norm_ (a' := ?_) ?_ ?_; rotate_left; (focus show Act.put _ (some 67) _ = _; simp only [Act.put, sA, sB, sC, i64_w, i32_w]; rfl)
                                    refine one_ (i := 27) (N := some 75) #[yb, yb, yb, yb, yb, yb, yb, yb, yb, yb, yb, yb, yb, yb, yb, yb, yb, yb, yb, yb, yb, yb, yb, yb, yb, yb, yb, yb, nb, yb, nb, nb, nb, nb] rfl rfl (one_of HT_.out (by kernel_rfl)) (by decide) (fun K hK => ?_)
                                    refine goes_ Try.func13 (by kernel_rfl) rfl #[.int .u64 (IntKind.u64.wrap ((rd_T38 l2 x38_3).f1)), .int .u64 (IntKind.u64.wrap ((rd_T38 l2 x38_3).f2))] (by rfl) rfl rfl (by (try simp only [List.map_toArray, List.map_cons, List.map_nil]); first | done | rfl | (simp only [List.length_drop, List.length_take]; rfl)) ?_
                                    with_reducible refine (fix_Ratio.calls k3 (IntKind.u64.wrap ((rd_T38 l2 x38_3).f1)) (IntKind.u64.wrap ((rd_T38 l2 x38_3).f2)) t184 _ A38.out).mono ?_
                                    rintro e w' ⟨rfl, ⟨nd, rfl⟩⟩
                                    refine ⟨_, rfl, ?_⟩
                                    refine hK.out _ _ ⟨(blk_cell BK171.out 0).trans rfl, (blk_cell BK171.out 1).trans rfl, (blk_cell BK171.out 2).trans rfl, (blk_cell BK171.out 3).trans rfl⟩ (fun hHeld => ?_)
                                    clear hK K
                                    refine norm_ (a' := ?_) ?_ ?_; rotate_left; (focus show Act.put _ (some 75) _ = _; simp only [Act.put, sA, sB, sC, i64_w, i32_w]; rfl)
                                    refine one_ (i := 28) (N := some 76) #[yb, yb, yb, yb, yb, yb, yb, yb, yb, yb, yb, yb, yb, yb, yb, yb, yb, yb, yb, yb, yb, yb, yb, yb, yb, yb, yb, yb, yb, yb, nb, nb, nb, nb] rfl rfl (one_of HT_.out (by kernel_rfl)) (by decide) (fun K hK => ?_)
                                    refine goes_ Try.func12 (by kernel_rfl) rfl #[.int .u64 t172, .int .u64 t184] (by rfl) rfl rfl (by (try simp only [List.map_toArray, List.map_cons, List.map_nil]); first | done | rfl | (simp only [List.length_drop, List.length_take]; rfl)) ?_
                                    with_reducible refine (fix_F_Add.calls t172 t184 t185 _ A39.out).mono ?_
                                    rintro e w' ⟨rfl, ⟨nd, rfl⟩⟩
                                    refine ⟨_, rfl, ?_⟩
                                    refine hK.out _ _ ⟨(blk_cell BK171.out 0).trans rfl, (blk_cell BK171.out 1).trans rfl, (blk_cell BK171.out 2).trans rfl, (blk_cell BK171.out 3).trans rfl⟩ (fun hHeld => ?_)
                                    clear hK K
                                    refine norm_ (a' := ?_) ?_ ?_; rotate_left; (focus show Act.put _ (some 76) _ = _; simp only [Act.put, sA, sB, sC, i64_w, i32_w]; rfl)
                                    refine pure_ (i := 30) (N := some 78) (v := ?_) (a' := ?_) #[yb, yb, yb, yb, yb, yb, yb, yb, yb, yb, yb, yb, yb, yb, yb, yb, yb, yb, yb, yb, yb, yb, yb, yb, yb, yb, yb, yb, yb, yb, yb, nb, nb, nb] rfl rfl (any_of HT_.out (by kernel_rfl)) (fun _ _ _ h => h) (Or.inl ⟨by rfl, ?_⟩) ?_ ?_; rotate_left; (focus intro w'; go_simp; with_reducible rfl); rotate_left; (focus simp only [Act.put, sA, sB, sC, i64_w, i32_w]; rfl)
                                    refine pure_ (i := 31) (N := some 79) (v := ?_) (a' := ?_) #[yb, yb, yb, yb, yb, yb, yb, yb, yb, yb, yb, yb, yb, yb, yb, yb, yb, yb, yb, yb, yb, yb, yb, yb, yb, yb, yb, yb, yb, yb, yb, yb, nb, nb] rfl rfl (any_of HT_.out (by kernel_rfl)) (fun _ _ _ h => h) (Or.inl ⟨by rfl, ?_⟩) ?_ ?_; rotate_left; (focus intro w'; go_simp; with_reducible rfl); rotate_left; (focus simp only [Act.put, sA, sB, sC, i64_w, i32_w]; rfl)
                                    refine pure_ (i := 32) (N := some 80) (v := ?_) (a' := ?_) #[yb, yb, yb, yb, yb, yb, yb, yb, yb, yb, yb, yb, yb, yb, yb, yb, yb, yb, yb, yb, yb, yb, yb, yb, yb, yb, yb, yb, yb, yb, yb, yb, yb, nb] rfl rfl (any_of HT_.out (by kernel_rfl)) (fun _ _ _ h => h) (Or.inl ⟨by rfl, ?_⟩) ?_ ?_; rotate_left; (focus intro w'; go_simp; with_reducible rfl); rotate_left; (focus simp only [Act.put, sA, sB, sC, i64_w, i32_w]; rfl)
                                    refine pure_ (i := 33) (N := some 81) (v := ?_) (a' := ?_) #[yb, yb, yb, yb, yb, yb, yb, yb, yb, yb, yb, yb, yb, yb, yb, yb, yb, yb, yb, yb, yb, yb, yb, yb, yb, yb, yb, yb, yb, yb, yb, yb, yb, yb] rfl rfl (any_of HT_.out (by kernel_rfl)) (fun _ _ _ h => h) (Or.inl ⟨by rfl, ?_⟩) ?_ ?_; rotate_left; (focus intro w'; go_simp; with_reducible rfl); rotate_left; (focus simp only [Act.put, sA, sB, sC, i64_w, i32_w]; rfl)
                                    refine done_ (done_of HT_.out (by kernel_rfl)) ?_
                                    try go_wp2
                                    go_meet
                                    case rel => exact ⟨_, (decide (t181 > (ji40))), (t182), (t183), (by first | rfl | (simp; done) | (simp only [← hji40] <;> (first | rfl | simp)) | (simp [*]; done)), H', ⟨by have := HJ8.out; have := HJ14.out; have := HK3.out; first | omega | exact Nat.le_refl _⟩, ⟨by (with_reducible repeat (first | refine blk_drewN ?_ _ | refine blk_drew ?_ | refine blk_alloc ?_ _)); exact BK171.out⟩, ⟨by repeat (first | (with_reducible first | exact HI166.out | apply IsS48.alloc | apply IsS48.drewN | apply IsS48.drew | apply IsS48.set_0 | apply IsS48.set_1 | refine IsS48.far ?_ NB166_171.out _) | exact HI166.out)⟩, ⟨by repeat (first | (with_reducible first | exact HB.out | apply below_alloc | apply pw_below_drewN | apply below_drew1 | refine below_set ?_ (IsS48.ge HI166.out) | refine below_set ?_ GE171.out) | exact HB.out)⟩⟩
                                · rw [if_neg c30] at H
                                  have c30b0 : (t175 == 0) = false := beq_eq_false_iff_ne.mpr c30
                                  have c30b1 : (t175 != 0) = true := bne_iff_ne.mpr c30
                                  (first | rw [c30b0] | (simp only [i64_w, i32_w]; rw [c30b0]) | skip)
                                  have H' := Aside0.mk H
                                  clear H
                                  try go_wp2
                                  have n0_ := Aside0.mk (blk_drew BK171.out)
                                  have n1_ := Aside0.mk (IsS48.drew HI166.out)
                                  have n2_ := Aside0.mk (below_drew1 HB.out)
                                  clear BK171
                                  clear HI166
                                  clear HB
                                  have BK171 := n0_
                                  have HI166 := n1_
                                  have HB := n2_
                                  clear n0_ n1_ n2_
                                  refine start_ (n := 34) (S := fun w' => w'.cell? ⟨gb171, 0, none⟩ = some (.int .i64 ((rd_T38 l2 x38_3).f0)) ∧ w'.cell? ⟨gb171, 1, none⟩ = some (.int .i64 ((rd_T38 l2 x38_3).f1)) ∧ w'.cell? ⟨gb171, 2, none⟩ = some (.int .i64 ((rd_T38 l2 x38_3).f2)) ∧ w'.cell? ⟨gb171, 3, none⟩ = some (.int .u64 ((rd_T38 l2 x38_3).f3))) (ds := []) #[nb, nb, nb, nb, nb, nb, nb, nb, nb, nb, nb, nb, nb, nb, nb, nb, nb, nb, nb, nb, nb, nb, nb, nb, nb, nb, nb, nb, nb, nb, nb, nb, nb, nb] (by kernel_rfl) rfl rfl ⟨(blk_cell BK171.out 0).trans rfl, (blk_cell BK171.out 1).trans rfl, (blk_cell BK171.out 2).trans rfl, (blk_cell BK171.out 3).trans rfl⟩ (fun hHeld => ?_); refine with_tabW terracelaw19_SpeedBounds.tab14 terracelaw19_SpeedBounds.bits14 (fun HT_ HW_ => ?_)
                                  generalize w27.drew = w45 at BK171 HI166 HB hHeld ⊢
                                  refine pure_ (i := 0) (N := some 48) (v := ?_) (a' := ?_) #[yb, nb, nb, nb, nb, nb, nb, nb, nb, nb, nb, nb, nb, nb, nb, nb, nb, nb, nb, nb, nb, nb, nb, nb, nb, nb, nb, nb, nb, nb, nb, nb, nb, nb] rfl rfl (any_of HT_.out (by kernel_rfl)) (fun _ _ _ h => h) (Or.inl ⟨by rfl, ?_⟩) ?_ ?_; rotate_left; (focus intro w'; go_simp; with_reducible rfl); rotate_left; (focus simp only [Act.put, sA, sB, sC, i64_w, i32_w]; rfl)
                                  refine pure_ (i := 1) (N := some 49) (v := ?_) (a' := ?_) #[yb, yb, nb, nb, nb, nb, nb, nb, nb, nb, nb, nb, nb, nb, nb, nb, nb, nb, nb, nb, nb, nb, nb, nb, nb, nb, nb, nb, nb, nb, nb, nb, nb, nb] rfl rfl (any_of HT_.out (by kernel_rfl)) (fun _ _ _ h => h) (Or.inl ⟨by rfl, ?_⟩) ?_ ?_; rotate_left; (focus intro w'; go_simp; with_reducible rfl); rotate_left; (focus simp only [Act.put, sA, sB, sC, i64_w, i32_w]; rfl)
                                  refine pure_ (i := 3) (N := some 51) (v := ?_) (a' := ?_) #[yb, yb, nb, yb, nb, nb, nb, nb, nb, nb, nb, nb, nb, nb, nb, nb, nb, nb, nb, nb, nb, nb, nb, nb, nb, nb, nb, nb, nb, nb, nb, nb, nb, nb] rfl rfl (any_of HT_.out (by kernel_rfl)) (fun _ _ _ h => h) (Or.inl ⟨by rfl, ?_⟩) ?_ ?_; rotate_left; (focus intro w'; go_simp; with_reducible rfl); rotate_left; (focus simp only [Act.put, sA, sB, sC, i64_w, i32_w]; rfl)
                                  refine pure_ (i := 5) (N := some 53) (v := ?_) (a' := ?_) #[yb, yb, nb, yb, nb, yb, nb, nb, nb, nb, nb, nb, nb, nb, nb, nb, nb, nb, nb, nb, nb, nb, nb, nb, nb, nb, nb, nb, nb, nb, nb, nb, nb, nb] rfl rfl (any_of HT_.out (by kernel_rfl)) (fun _ _ _ h => h) (Or.inl ⟨by rfl, ?_⟩) ?_ ?_; rotate_left; (focus intro w'; go_simp; with_reducible rfl); rotate_left; (focus simp only [Act.put, sA, sB, sC, i64_w, i32_w]; rfl)
                                  refine take_ (i := 2) (N := some 50) (v := ?_) (a' := ?_) #[yb, yb, yb, yb, nb, yb, nb, nb, nb, nb, nb, nb, nb, nb, nb, nb, nb, nb, nb, nb, nb, nb, nb, nb, nb, nb, nb, nb, nb, nb, nb, nb, nb, nb] rfl rfl (take_ofW HT_.out HW_.out (by kernel_rfl)) (fun _ _ _ h => h) (Or.inl ⟨by rfl, ?_⟩) hHeld ?_ ?_; rotate_left; (focus rintro w' ⟨s0, s1, s2, s3⟩; go_simp; with_reducible rfl); rotate_left; (focus simp only [Act.put, sA, sB, sC, i64_w, i32_w]; rfl)
                                  refine take_ (i := 4) (N := some 52) (v := ?_) (a' := ?_) #[yb, yb, yb, yb, yb, yb, nb, nb, nb, nb, nb, nb, nb, nb, nb, nb, nb, nb, nb, nb, nb, nb, nb, nb, nb, nb, nb, nb, nb, nb, nb, nb, nb, nb] rfl rfl (take_ofW HT_.out HW_.out (by kernel_rfl)) (fun _ _ _ h => h) (Or.inl ⟨by rfl, ?_⟩) hHeld ?_ ?_; rotate_left; (focus rintro w' ⟨s0, s1, s2, s3⟩; go_simp; with_reducible rfl); rotate_left; (focus simp only [Act.put, sA, sB, sC, i64_w, i32_w]; rfl)
                                  refine take_ (i := 6) (N := some 54) (v := ?_) (a' := ?_) #[yb, yb, yb, yb, yb, yb, yb, nb, nb, nb, nb, nb, nb, nb, nb, nb, nb, nb, nb, nb, nb, nb, nb, nb, nb, nb, nb, nb, nb, nb, nb, nb, nb, nb] rfl rfl (take_ofW HT_.out HW_.out (by kernel_rfl)) (fun _ _ _ h => h) (Or.inl ⟨by rfl, ?_⟩) hHeld ?_ ?_; rotate_left; (focus rintro w' ⟨s0, s1, s2, s3⟩; go_simp; with_reducible rfl); rotate_left; (focus simp only [Act.put, sA, sB, sC, i64_w, i32_w]; rfl)
                                  refine one_ (i := 7) (N := some 55) #[yb, yb, yb, yb, yb, yb, yb, yb, nb, nb, nb, nb, nb, nb, nb, nb, nb, nb, nb, nb, nb, nb, nb, nb, nb, nb, nb, nb, nb, nb, nb, nb, nb, nb] rfl rfl (one_of HT_.out (by kernel_rfl)) (by decide) (fun K hK => ?_)
                                  refine goes_ Try.func10 (by kernel_rfl) rfl #[.pointer (some ⟨g166, 0, none⟩), .int .u64 ((rd_T38 l2 x38_3).f3), .int .i64 ((rd_T38 l2 x38_3).f1), .int .i64 ((rd_T38 l2 x38_3).f2)] (by rfl) rfl rfl (by (try simp only [List.map_toArray, List.map_cons, List.map_nil]); first | done | rfl | (simp only [List.length_drop, List.length_take]; rfl)) ?_
                                  with_reducible refine (speed_Speed_Held.calls k3 g166 t173 t174 ((rd_T38 l2 x38_3).f3) ((rd_T38 l2 x38_3).f1) ((rd_T38 l2 x38_3).f2) t175 t176 t177 w _ ?side1 ?side2 A29.out).mono ?_
                                  (case side1 => repeat (first | (with_reducible first | exact HI166.out | apply IsS48.alloc | apply IsS48.drewN | apply IsS48.drew | apply IsS48.set_0 | apply IsS48.set_1 | refine IsS48.far ?_ NB166_171.out _) | exact HI166.out))
                                  (case side2 => repeat (first | (with_reducible first | exact HB.out | apply below_alloc | apply pw_below_drewN | apply below_drew1 | refine below_set ?_ (IsS48.ge HI166.out) | refine below_set ?_ GE171.out) | exact HB.out))
                                  rintro e w46 ⟨rfl, hi, hb, hk⟩
                                  refine ⟨_, rfl, ?_⟩
                                  have n0_ := Aside0.mk (KeepBut.blk hk (g' := gb171) (o := .cells #[.int .i64 ((rd_T38 l2 x38_3).f0), .int .i64 ((rd_T38 l2 x38_3).f1), .int .i64 ((rd_T38 l2 x38_3).f2), .int .u64 ((rd_T38 l2 x38_3).f3)] 38 (0, 0)) (by (with_reducible repeat (first | refine blk_drewN ?_ _ | refine blk_drew ?_ | refine blk_alloc ?_ _)); exact BK171.out) NB171_166.out (by simp))
                                  have n1_ := Aside0.mk (hb)
                                  have n2_ := Aside0.mk (hi)
                                  clear BK171
                                  clear HB
                                  clear HI166
                                  have BK171 := n0_
                                  have HB := n1_
                                  have HI166 := n2_
                                  clear n0_ n1_ n2_
                                  (try clear hb)
                                  (try clear hb2)
                                  (try clear hk)
                                  (try clear hi)
                                  refine hK.out _ _ ⟨(blk_cell BK171.out 0).trans rfl, (blk_cell BK171.out 1).trans rfl, (blk_cell BK171.out 2).trans rfl, (blk_cell BK171.out 3).trans rfl⟩ (fun hHeld => ?_)
                                  clear hK K
                                  refine norm_ (a' := ?_) ?_ ?_; rotate_left; (focus show Act.put _ (some 55) _ = _; simp only [Act.put, sA, sB, sC, i64_w, i32_w]; rfl)
                                  refine pure_ (i := 8) (N := some 56) (v := ?_) (a' := ?_) #[yb, yb, yb, yb, yb, yb, yb, yb, yb, nb, nb, nb, nb, nb, nb, nb, nb, nb, nb, nb, nb, nb, nb, nb, nb, nb, nb, nb, nb, nb, nb, nb, nb, nb] rfl rfl (any_of HT_.out (by kernel_rfl)) (fun _ _ _ h => h) (Or.inl ⟨by rfl, ?_⟩) ?_ ?_; rotate_left; (focus intro w'; go_simp; with_reducible rfl); rotate_left; (focus simp only [Act.put, sA, sB, sC, i64_w, i32_w]; rfl)
                                  refine pure_ (i := 9) (N := some 57) (v := ?_) (a' := ?_) #[yb, yb, yb, yb, yb, yb, yb, yb, yb, yb, nb, nb, nb, nb, nb, nb, nb, nb, nb, nb, nb, nb, nb, nb, nb, nb, nb, nb, nb, nb, nb, nb, nb, nb] rfl rfl (any_of HT_.out (by kernel_rfl)) (fun _ _ _ h => h) (Or.inl ⟨by rfl, ?_⟩) ?_ ?_; rotate_left; (focus intro w'; go_simp; with_reducible rfl); rotate_left; (focus simp only [Act.put, sA, sB, sC, i64_w, i32_w]; rfl)
                                  refine pure_ (i := 10) (N := some 58) (v := undef) (a' := ?_) #[yb, yb, yb, yb, yb, yb, yb, yb, yb, yb, yb, nb, nb, nb, nb, nb, nb, nb, nb, nb, nb, nb, nb, nb, nb, nb, nb, nb, nb, nb, nb, nb, nb, nb] rfl rfl (any_of HT_.out (by kernel_rfl)) (fun _ _ _ h => h) (Or.inr ⟨by rfl, rfl⟩) ?_ ?_; rotate_left; (focus simp only [Act.put, sA, sB, sC, i64_w, i32_w]; rfl)
                                  refine pure_ (i := 11) (N := some 59) (v := undef) (a' := ?_) #[yb, yb, yb, yb, yb, yb, yb, yb, yb, yb, yb, yb, nb, nb, nb, nb, nb, nb, nb, nb, nb, nb, nb, nb, nb, nb, nb, nb, nb, nb, nb, nb, nb, nb] rfl rfl (any_of HT_.out (by kernel_rfl)) (fun _ _ _ h => h) (Or.inr ⟨by rfl, rfl⟩) ?_ ?_; rotate_left; (focus simp only [Act.put, sA, sB, sC, i64_w, i32_w]; rfl)
                                  refine pure_ (i := 12) (N := some 60) (v := undef) (a' := ?_) #[yb, yb, yb, yb, yb, yb, yb, yb, yb, yb, yb, yb, yb, nb, nb, nb, nb, nb, nb, nb, nb, nb, nb, nb, nb, nb, nb, nb, nb, nb, nb, nb, nb, nb] rfl rfl (any_of HT_.out (by kernel_rfl)) (fun _ _ _ h => h) (Or.inr ⟨by rfl, rfl⟩) ?_ ?_; rotate_left; (focus simp only [Act.put, sA, sB, sC, i64_w, i32_w]; rfl)
                                  refine pure_ (i := 13) (N := some 61) (v := undef) (a' := ?_) #[yb, yb, yb, yb, yb, yb, yb, yb, yb, yb, yb, yb, yb, yb, nb, nb, nb, nb, nb, nb, nb, nb, nb, nb, nb, nb, nb, nb, nb, nb, nb, nb, nb, nb] rfl rfl (any_of HT_.out (by kernel_rfl)) (fun _ _ _ h => h) (Or.inr ⟨by rfl, rfl⟩) ?_ ?_; rotate_left; (focus simp only [Act.put, sA, sB, sC, i64_w, i32_w]; rfl)
                                  refine pure_ (i := 14) (N := some 62) (v := undef) (a' := ?_) #[yb, yb, yb, yb, yb, yb, yb, yb, yb, yb, yb, yb, yb, yb, yb, nb, nb, nb, nb, nb, nb, nb, nb, nb, nb, nb, nb, nb, nb, nb, nb, nb, nb, nb] rfl rfl (any_of HT_.out (by kernel_rfl)) (fun _ _ _ h => h) (Or.inr ⟨by rfl, rfl⟩) ?_ ?_; rotate_left; (focus simp only [Act.put, sA, sB, sC, i64_w, i32_w]; rfl)
                                  refine pure_ (i := 15) (N := some 63) (v := undef) (a' := ?_) #[yb, yb, yb, yb, yb, yb, yb, yb, yb, yb, yb, yb, yb, yb, yb, yb, nb, nb, nb, nb, nb, nb, nb, nb, nb, nb, nb, nb, nb, nb, nb, nb, nb, nb] rfl rfl (any_of HT_.out (by kernel_rfl)) (fun _ _ _ h => h) (Or.inr ⟨by rfl, rfl⟩) ?_ ?_; rotate_left; (focus simp only [Act.put, sA, sB, sC, i64_w, i32_w]; rfl)
                                  refine pure_ (i := 16) (N := some 64) (v := undef) (a' := ?_) #[yb, yb, yb, yb, yb, yb, yb, yb, yb, yb, yb, yb, yb, yb, yb, yb, yb, nb, nb, nb, nb, nb, nb, nb, nb, nb, nb, nb, nb, nb, nb, nb, nb, nb] rfl rfl (any_of HT_.out (by kernel_rfl)) (fun _ _ _ h => h) (Or.inr ⟨by rfl, rfl⟩) ?_ ?_; rotate_left; (focus simp only [Act.put, sA, sB, sC, i64_w, i32_w]; rfl)
                                  refine pure_ (i := 17) (N := some 65) (v := undef) (a' := ?_) #[yb, yb, yb, yb, yb, yb, yb, yb, yb, yb, yb, yb, yb, yb, yb, yb, yb, yb, nb, nb, nb, nb, nb, nb, nb, nb, nb, nb, nb, nb, nb, nb, nb, nb] rfl rfl (any_of HT_.out (by kernel_rfl)) (fun _ _ _ h => h) (Or.inr ⟨by rfl, rfl⟩) ?_ ?_; rotate_left; (focus simp only [Act.put, sA, sB, sC, i64_w, i32_w]; rfl)
                                  refine pure_ (i := 18) (N := some 66) (v := undef) (a' := ?_) #[yb, yb, yb, yb, yb, yb, yb, yb, yb, yb, yb, yb, yb, yb, yb, yb, yb, yb, yb, nb, nb, nb, nb, nb, nb, nb, nb, nb, nb, nb, nb, nb, nb, nb] rfl rfl (any_of HT_.out (by kernel_rfl)) (fun _ _ _ h => h) (Or.inr ⟨by rfl, rfl⟩) ?_ ?_; rotate_left; (focus simp only [Act.put, sA, sB, sC, i64_w, i32_w]; rfl)
                                  refine pure_ (i := 19) (N := some 67) (v := undef) (a' := ?_) #[yb, yb, yb, yb, yb, yb, yb, yb, yb, yb, yb, yb, yb, yb, yb, yb, yb, yb, yb, yb, nb, nb, nb, nb, nb, nb, nb, nb, nb, nb, nb, nb, nb, nb] rfl rfl (any_of HT_.out (by kernel_rfl)) (fun _ _ _ h => h) (Or.inr ⟨by rfl, rfl⟩) ?_ ?_; rotate_left; (focus simp only [Act.put, sA, sB, sC, i64_w, i32_w]; rfl)
                                  refine pure_ (i := 20) (N := some 68) (v := undef) (a' := ?_) #[yb, yb, yb, yb, yb, yb, yb, yb, yb, yb, yb, yb, yb, yb, yb, yb, yb, yb, yb, yb, yb, nb, nb, nb, nb, nb, nb, nb, nb, nb, nb, nb, nb, nb] rfl rfl (any_of HT_.out (by kernel_rfl)) (fun _ _ _ h => h) (Or.inr ⟨by rfl, rfl⟩) ?_ ?_; rotate_left; (focus simp only [Act.put, sA, sB, sC, i64_w, i32_w]; rfl)
                                  refine pure_ (i := 21) (N := some 69) (v := undef) (a' := ?_) #[yb, yb, yb, yb, yb, yb, yb, yb, yb, yb, yb, yb, yb, yb, yb, yb, yb, yb, yb, yb, yb, yb, nb, nb, nb, nb, nb, nb, nb, nb, nb, nb, nb, nb] rfl rfl (any_of HT_.out (by kernel_rfl)) (fun _ _ _ h => h) (Or.inr ⟨by rfl, rfl⟩) ?_ ?_; rotate_left; (focus simp only [Act.put, sA, sB, sC, i64_w, i32_w]; rfl)
                                  refine pure_ (i := 22) (N := some 70) (v := undef) (a' := ?_) #[yb, yb, yb, yb, yb, yb, yb, yb, yb, yb, yb, yb, yb, yb, yb, yb, yb, yb, yb, yb, yb, yb, yb, nb, nb, nb, nb, nb, nb, nb, nb, nb, nb, nb] rfl rfl (any_of HT_.out (by kernel_rfl)) (fun _ _ _ h => h) (Or.inr ⟨by rfl, rfl⟩) ?_ ?_; rotate_left; (focus simp only [Act.put, sA, sB, sC, i64_w, i32_w]; rfl)
                                  refine pure_ (i := 23) (N := some 71) (v := undef) (a' := ?_) #[yb, yb, yb, yb, yb, yb, yb, yb, yb, yb, yb, yb, yb, yb, yb, yb, yb, yb, yb, yb, yb, yb, yb, yb, nb, nb, nb, nb, nb, nb, nb, nb, nb, nb] rfl rfl (any_of HT_.out (by kernel_rfl)) (fun _ _ _ h => h) (Or.inr ⟨by rfl, rfl⟩) ?_ ?_; rotate_left; (focus simp only [Act.put, sA, sB, sC, i64_w, i32_w]; rfl)
                                  refine pure_ (i := 24) (N := some 72) (v := undef) (a' := ?_) #[yb, yb, yb, yb, yb, yb, yb, yb, yb, yb, yb, yb, yb, yb, yb, yb, yb, yb, yb, yb, yb, yb, yb, yb, yb, nb, nb, nb, nb, nb, nb, nb, nb, nb] rfl rfl (any_of HT_.out (by kernel_rfl)) (fun _ _ _ h => h) (Or.inr ⟨by rfl, rfl⟩) ?_ ?_; rotate_left; (focus simp only [Act.put, sA, sB, sC, i64_w, i32_w]; rfl)
                                  refine pure_ (i := 25) (N := some 73) (v := undef) (a' := ?_) #[yb, yb, yb, yb, yb, yb, yb, yb, yb, yb, yb, yb, yb, yb, yb, yb, yb, yb, yb, yb, yb, yb, yb, yb, yb, yb, nb, nb, nb, nb, nb, nb, nb, nb] rfl rfl (any_of HT_.out (by kernel_rfl)) (fun _ _ _ h => h) (Or.inr ⟨by rfl, rfl⟩) ?_ ?_; rotate_left; (focus simp only [Act.put, sA, sB, sC, i64_w, i32_w]; rfl)
                                  refine pure_ (i := 26) (N := some 74) (v := undef) (a' := ?_) #[yb, yb, yb, yb, yb, yb, yb, yb, yb, yb, yb, yb, yb, yb, yb, yb, yb, yb, yb, yb, yb, yb, yb, yb, yb, yb, yb, nb, nb, nb, nb, nb, nb, nb] rfl rfl (any_of HT_.out (by kernel_rfl)) (fun _ _ _ h => h) (Or.inr ⟨by rfl, rfl⟩) ?_ ?_; rotate_left; (focus simp only [Act.put, sA, sB, sC, i64_w, i32_w]; rfl)
                                  refine pure_ (i := 27) (N := some 75) (v := undef) (a' := ?_) #[yb, yb, yb, yb, yb, yb, yb, yb, yb, yb, yb, yb, yb, yb, yb, yb, yb, yb, yb, yb, yb, yb, yb, yb, yb, yb, yb, yb, nb, nb, nb, nb, nb, nb] rfl rfl (any_of HT_.out (by kernel_rfl)) (fun _ _ _ h => h) (Or.inr ⟨by rfl, rfl⟩) ?_ ?_; rotate_left; (focus simp only [Act.put, sA, sB, sC, i64_w, i32_w]; rfl)
                                  refine pure_ (i := 28) (N := some 76) (v := undef) (a' := ?_) #[yb, yb, yb, yb, yb, yb, yb, yb, yb, yb, yb, yb, yb, yb, yb, yb, yb, yb, yb, yb, yb, yb, yb, yb, yb, yb, yb, yb, yb, nb, nb, nb, nb, nb] rfl rfl (any_of HT_.out (by kernel_rfl)) (fun _ _ _ h => h) (Or.inr ⟨by rfl, rfl⟩) ?_ ?_; rotate_left; (focus simp only [Act.put, sA, sB, sC, i64_w, i32_w]; rfl)
                                  refine pure_ (i := 29) (N := some 77) (v := undef) (a' := ?_) #[yb, yb, yb, yb, yb, yb, yb, yb, yb, yb, yb, yb, yb, yb, yb, yb, yb, yb, yb, yb, yb, yb, yb, yb, yb, yb, yb, yb, yb, yb, nb, nb, nb, nb] rfl rfl (any_of HT_.out (by kernel_rfl)) (fun _ _ _ h => h) (Or.inr ⟨by rfl, rfl⟩) ?_ ?_; rotate_left; (focus simp only [Act.put, sA, sB, sC, i64_w, i32_w]; rfl)
                                  refine pure_ (i := 30) (N := some 78) (v := undef) (a' := ?_) #[yb, yb, yb, yb, yb, yb, yb, yb, yb, yb, yb, yb, yb, yb, yb, yb, yb, yb, yb, yb, yb, yb, yb, yb, yb, yb, yb, yb, yb, yb, yb, nb, nb, nb] rfl rfl (any_of HT_.out (by kernel_rfl)) (fun _ _ _ h => h) (Or.inr ⟨by rfl, rfl⟩) ?_ ?_; rotate_left; (focus simp only [Act.put, sA, sB, sC, i64_w, i32_w]; rfl)
                                  refine pure_ (i := 31) (N := some 79) (v := undef) (a' := ?_) #[yb, yb, yb, yb, yb, yb, yb, yb, yb, yb, yb, yb, yb, yb, yb, yb, yb, yb, yb, yb, yb, yb, yb, yb, yb, yb, yb, yb, yb, yb, yb, yb, nb, nb] rfl rfl (any_of HT_.out (by kernel_rfl)) (fun _ _ _ h => h) (Or.inr ⟨by rfl, rfl⟩) ?_ ?_; rotate_left; (focus simp only [Act.put, sA, sB, sC, i64_w, i32_w]; rfl)
                                  refine pure_ (i := 32) (N := some 80) (v := undef) (a' := ?_) #[yb, yb, yb, yb, yb, yb, yb, yb, yb, yb, yb, yb, yb, yb, yb, yb, yb, yb, yb, yb, yb, yb, yb, yb, yb, yb, yb, yb, yb, yb, yb, yb, yb, nb] rfl rfl (any_of HT_.out (by kernel_rfl)) (fun _ _ _ h => h) (Or.inr ⟨by rfl, rfl⟩) ?_ ?_; rotate_left; (focus simp only [Act.put, sA, sB, sC, i64_w, i32_w]; rfl)
                                  refine pure_ (i := 33) (N := some 81) (v := ?_) (a' := ?_) #[yb, yb, yb, yb, yb, yb, yb, yb, yb, yb, yb, yb, yb, yb, yb, yb, yb, yb, yb, yb, yb, yb, yb, yb, yb, yb, yb, yb, yb, yb, yb, yb, yb, yb] rfl rfl (any_of HT_.out (by kernel_rfl)) (fun _ _ _ h => h) (Or.inl ⟨by rfl, ?_⟩) ?_ ?_; rotate_left; (focus intro w'; go_simp; with_reducible rfl); rotate_left; (focus simp only [Act.put, sA, sB, sC, i64_w, i32_w]; rfl)
                                  refine done_ (done_of HT_.out (by kernel_rfl)) ?_
                                  try go_wp2
                                  go_meet
                                  case rel => exact ⟨_, (false), (t176), (t177), (by first | rfl | (simp; done) | (simp [*]; done)), H', ⟨by have := HJ8.out; have := HJ14.out; have := HK3.out; first | omega | exact Nat.le_refl _⟩, ⟨by (with_reducible repeat (first | refine blk_drewN ?_ _ | refine blk_drew ?_ | refine blk_alloc ?_ _)); exact BK171.out⟩, ⟨by repeat (first | (with_reducible first | exact HI166.out | apply IsS48.alloc | apply IsS48.drewN | apply IsS48.drew | apply IsS48.set_0 | apply IsS48.set_1 | refine IsS48.far ?_ NB166_171.out _) | exact HI166.out)⟩, ⟨by repeat (first | (with_reducible first | exact HB.out | apply below_alloc | apply pw_below_drewN | apply below_drew1 | refine below_set ?_ (IsS48.ge HI166.out) | refine below_set ?_ GE171.out) | exact HB.out)⟩⟩
                              case rest =>
                                clear HC23
                                try clear c1
                                try clear p2
                                try clear c3
                                try clear c10
                                try clear c11
                                try clear c12
                                try clear c13
                                try clear c30
                                try clear c30b0
                                try clear c30b1
                                obtain ⟨kq, x81_22, x167000_22, x167001_22, rfl, HA, HJ22, BK171, HI166, HB⟩ := hcut
                                cases kq with
                                | zero => exact absurd HA.out (by simp [terracelaw19_SpeedBounds.j3])
                                | succ kj22 =>
                                  have H := HA.out
                                  clear HA
                                  simp only [terracelaw19_SpeedBounds.j3] at H
                                  by_cases c47 : x81_22 = true
                                  · subst c47
                                    have H1 : (some false) = some r := by rw [if_pos rfl] at H; exact H
                                    clear H
                                    have H := H1
                                    clear H1
                                    obtain rfl := Option.some.inj H
                                    go_wp2
                                    go_ret
                                    exact ⟨by first | rfl | (simp [errW_none, errW_some] <;> rfl) | (simp [*, errW_none, errW_some] <;> rfl), by repeat (first | (with_reducible first | exact HB.out | apply below_alloc | apply pw_below_drewN | apply below_drew1 | refine below_set ?_ (IsS48.ge HI166.out) | refine below_set ?_ GE171.out) | exact HB.out)⟩
                                  · replace c47 := Bool.eq_false_iff.mpr c47
                                    subst c47
                                    have H1 : (terracelaw19_SpeedBounds.l0 kj22 a0 l2 (l2.length : Int) (wrap64 (x38_3 + 1)) x167000_22 x167001_22) = some r := by rw [if_neg (show ¬ (false = true) by decide)] at H; exact H
                                    clear H
                                    have H := H1
                                    clear H1
                                    have H' := Aside0.mk H
                                    clear H
                                    go_wp2
                                    go_roundg kj22
                                    case measure => have := HJ8.out; have := HJ14.out; have := HK3.out; have := HJ22.out; omega
                                    case rel => exact ⟨(wrap64 (x38_3 + 1)), (x167000_22), (x167001_22), (by first | rfl | (simp; done) | (simp [*]; done)), H', ⟨by have := HJ8.out; have := HJ14.out; have := HK3.out; have := HJ22.out; omega⟩, ⟨by repeat (first | (with_reducible first | exact HI166.out | apply IsS48.alloc | apply IsS48.drewN | apply IsS48.drew | apply IsS48.set_0 | apply IsS48.set_1 | refine IsS48.far ?_ NB166_171.out _) | exact HI166.out)⟩, ⟨by repeat (first | (with_reducible first | exact HB.out | apply below_alloc | apply pw_below_drewN | apply below_drew1 | refine below_set ?_ (IsS48.ge HI166.out) | refine below_set ?_ GE171.out) | exact HB.out)⟩⟩
                            · rw [if_neg c22] at H
                              have c22b0 : (((rd_T38 l2 x38_3).f0) == 1) = false := beq_eq_false_iff_ne.mpr c22
                              have c22b1 : (((rd_T38 l2 x38_3).f0) != 1) = true := bne_iff_ne.mpr c22
                              by_cases c48 : ((rd_T38 l2 x38_3).f0) = 2
                              · rw [if_pos c48] at H
                                have c48b0 : (((rd_T38 l2 x38_3).f0) == 2) = true := beq_iff_eq.mpr c48
                                have c48b1 : (((rd_T38 l2 x38_3).f0) != 2) = false := bne_eq_false_iff_eq.mpr c48
                                clear c48
                                replace H := Option.bind_eq_some_iff.mp H
                                obtain ⟨⟨t186, t187⟩, A490, H⟩ := H
                                (try dsimp -simprocs only at H)
                                have A49 := Aside0.mk A490
                                clear A490
                                have HC50 := Aside0.mk H
                                clear H
                                have p170 : 0 ≤ (x38_3 : Int) := of_decide_eq_true (by first | (with_reducible assumption) | assumption)
                                have q170 : x38_3 < (l2.length : Int) := of_decide_eq_true (by first | (with_reducible assumption) | assumption)
                                obtain ⟨ad170, e170, hx170_0, hx170_1, hx170_2, hx170_3⟩ := at_T38 HR2.out x38_3 p170 q170
                                cases e170
                                replace hx170_0 := (HB.out.cell (World.block_lt_of_cell? w _ hx170_0)).trans hx170_0
                                replace hx170_1 := (HB.out.cell (World.block_lt_of_cell? w _ hx170_1)).trans hx170_1
                                replace hx170_2 := (HB.out.cell (World.block_lt_of_cell? w _ hx170_2)).trans hx170_2
                                replace hx170_3 := (HB.out.cell (World.block_lt_of_cell? w _ hx170_3)).trans hx170_3
                                replace p170 := eq_true p170
                                replace q170 := eq_true q170
                                go_upto_region 18 with (first | ((with_reducible refine gate_dst (N := 10) rfl ?_); (try (refine gate_guard (by rfl) ?_; dsimp only)); refine box_event ?hg (N := 10) ?hd (cs := #[.int .i64 0, .int .i64 0, .int .i64 0, .int .u64 0]) (t := 38) ?hr ?_; (case hd => rfl); (case hg => rfl); (case hr => first | (go_simp; done) | (go_simp; rfl)); intro gb171 hg w51 hbox hb; have n0_ := Aside0.mk (IsS48.below (by repeat (first | (with_reducible first | exact HI166.out | apply IsS48.alloc | apply IsS48.drewN | apply IsS48.drew | apply IsS48.set_0 | apply IsS48.set_1) | exact HI166.out)) hb); have n1_ := Aside0.mk (below_step (by repeat (first | (with_reducible first | exact HB.out | apply below_alloc | apply pw_below_drewN | apply below_drew1 | refine below_set ?_ (IsS48.ge HI166.out)) | exact HB.out)) hb); have n2_ := Aside0.mk (hbox); have n3_ := Aside0.mk ((by rw [hg]; exact (below_size (by repeat (first | (with_reducible first | exact HB.out | apply below_alloc | apply pw_below_drewN | apply below_drew1 | refine below_set ?_ (IsS48.ge HI166.out)) | exact HB.out))) : w.heap.size ≤ gb171)); have n4_ := Aside0.mk ((by rw [hg]; exact (below_size (by repeat (first | (with_reducible first | exact HB.out | apply below_alloc | apply pw_below_drewN | apply below_drew1 | refine below_set ?_ (IsS48.ge HI166.out)) | exact HB.out))) : w.heap.size ≤ gb171)); have n5_ := Aside0.mk ((by rw [hg]; exact Nat.ne_of_lt (IsS48.lt (show IsS48 w _ g166 x167000_3 x167001_3 from by repeat (first | (with_reducible first | exact HI166.out | apply IsS48.alloc | apply IsS48.drewN | apply IsS48.drew | apply IsS48.set_0 | apply IsS48.set_1) | exact HI166.out))) : g166 ≠ gb171)); have n6_ := Aside0.mk ((by rw [hg]; exact Nat.ne_of_gt (IsS48.lt (show IsS48 w _ g166 x167000_3 x167001_3 from by repeat (first | (with_reducible first | exact HI166.out | apply IsS48.alloc | apply IsS48.drewN | apply IsS48.drew | apply IsS48.set_0 | apply IsS48.set_1) | exact HI166.out))) : gb171 ≠ g166)); clear HI166; clear HB; have HI166 := n0_; have HB := n1_; have BK171 := n2_; have GW171 := n3_; have GE171 := n4_; have NB166_171 := n5_; have NB171_166 := n6_; clear n0_ n1_ n2_ n3_ n4_ n5_ n6_; clear hb hbox hg; have hnb52 := NB171_166.out; have hnc52 := NB166_171.out; have hcz53_0 : w51.cell? ⟨gb171, 0, none⟩ = some (.int .i64 0) := (blk_cell BK171.out 0).trans rfl; have hcz53_1 : w51.cell? ⟨gb171, 1, none⟩ = some (.int .i64 0) := (blk_cell BK171.out 1).trans rfl; have hcz53_2 : w51.cell? ⟨gb171, 2, none⟩ = some (.int .i64 0) := (blk_cell BK171.out 2).trans rfl; have hcz53_3 : w51.cell? ⟨gb171, 3, none⟩ = some (.int .u64 0) := (blk_cell BK171.out 3).trans rfl; have hfz53_0 := blk_frozen BK171.out 0; have hfz53_1 := blk_frozen BK171.out 1; have hfz53_2 := blk_frozen BK171.out 2; have hfz53_3 := blk_frozen BK171.out 3) | ((with_reducible refine gate_callee (f := 11) rfl ?_); refine goesL_ (some 43) rfl rfl Try.func11 (by kernel_rfl) rfl #[.pointer (some ⟨g166, 0, none⟩)] rfl (by (try simp only [List.map_toArray, List.map_cons, List.map_nil]); first | done | rfl | (simp only [List.length_drop, List.length_take]; rfl)) ?_; (with_reducible refine (speed_Speed_Rate.calls g166 x167000_3 x167001_3 t172 t173 t174 w _ ?side1 ?side2 A21.out).mono ?_); (case side1 => repeat (first | (with_reducible first | exact HI166.out | apply IsS48.alloc | apply IsS48.drewN | apply IsS48.drew | apply IsS48.set_0 | apply IsS48.set_1 | refine IsS48.far ?_ NB166_171.out _) | exact HI166.out)); (case side2 => repeat (first | (with_reducible first | exact HB.out | apply below_alloc | apply pw_below_drewN | apply below_drew1 | refine below_set ?_ (IsS48.ge HI166.out) | refine below_set ?_ GE171.out) | exact HB.out)); rintro e w54 ⟨rfl, hi, hb, hk⟩; refine ⟨_, rfl, ?_⟩; have n0_ := Aside0.mk (KeepBut.blk hk (g' := gb171) (o := .cells #[.int .i64 ((rd_T38 l2 x38_3).f0), .int .i64 ((rd_T38 l2 x38_3).f1), .int .i64 ((rd_T38 l2 x38_3).f2), .int .u64 ((rd_T38 l2 x38_3).f3)] 38 (0, 0)) (by (with_reducible repeat (first | refine blk_drewN ?_ _ | refine blk_drew ?_ | refine blk_alloc ?_ _)); refine blk_put (cs := #[.int .i64 ((rd_T38 l2 x38_3).f0), .int .i64 ((rd_T38 l2 x38_3).f1), .int .i64 ((rd_T38 l2 x38_3).f2), .int .u64 0]) ?_ 3 _ rfl; (with_reducible repeat (first | refine blk_drewN ?_ _ | refine blk_drew ?_ | refine blk_alloc ?_ _)); refine blk_put (cs := #[.int .i64 ((rd_T38 l2 x38_3).f0), .int .i64 ((rd_T38 l2 x38_3).f1), .int .i64 0, .int .u64 0]) ?_ 2 _ rfl; (with_reducible repeat (first | refine blk_drewN ?_ _ | refine blk_drew ?_ | refine blk_alloc ?_ _)); refine blk_put (cs := #[.int .i64 ((rd_T38 l2 x38_3).f0), .int .i64 0, .int .i64 0, .int .u64 0]) ?_ 1 _ rfl; (with_reducible repeat (first | refine blk_drewN ?_ _ | refine blk_drew ?_ | refine blk_alloc ?_ _)); refine blk_put (cs := #[.int .i64 0, .int .i64 0, .int .i64 0, .int .u64 0]) ?_ 0 _ rfl; (with_reducible repeat (first | refine blk_drewN ?_ _ | refine blk_drew ?_ | refine blk_alloc ?_ _)); exact BK171.out) NB171_166.out (by simp)); have n1_ := Aside0.mk (hb); have n2_ := Aside0.mk (hi); clear BK171; clear HB; clear HI166; have BK171 := n0_; have HB := n1_; have HI166 := n2_; clear n0_ n1_ n2_; (try clear hb); (try clear hb2); (try clear hk); (try clear hi); have hcz55_0 : w54.cell? ⟨gb171, 0, none⟩ = some (.int .i64 ((rd_T38 l2 x38_3).f0)) := (blk_cell BK171.out 0).trans rfl; have hcz55_1 : w54.cell? ⟨gb171, 1, none⟩ = some (.int .i64 ((rd_T38 l2 x38_3).f1)) := (blk_cell BK171.out 1).trans rfl; have hcz55_2 : w54.cell? ⟨gb171, 2, none⟩ = some (.int .i64 ((rd_T38 l2 x38_3).f2)) := (blk_cell BK171.out 2).trans rfl; have hcz55_3 : w54.cell? ⟨gb171, 3, none⟩ = some (.int .u64 ((rd_T38 l2 x38_3).f3)) := (blk_cell BK171.out 3).trans rfl; have hfz55_0 := blk_frozen BK171.out 0; have hfz55_1 := blk_frozen BK171.out 1; have hfz55_2 := blk_frozen BK171.out 2; have hfz55_3 := blk_frozen BK171.out 3) | ((with_reducible refine gate_callee (f := 14) rfl ?_); refine goesL_ (some 90) rfl rfl Try.func14 (by kernel_rfl) rfl #[.pointer (some ⟨g166, 0, none⟩), .int .u64 ((rd_T38 l2 x38_3).f3), .bool (((rd_T38 l2 x38_3).f1) != 0)] rfl (by (try simp only [List.map_toArray, List.map_cons, List.map_nil]); first | done | rfl | (simp only [List.length_drop, List.length_take]; rfl)) ?_; (with_reducible refine (speed_Speed_Free.calls g166 t173 t174 ((rd_T38 l2 x38_3).f3) (((rd_T38 l2 x38_3).f1) != 0) t186 t187 w _ ?side1 ?side2 A49.out).mono ?_); (case side1 => repeat (first | (with_reducible first | exact HI166.out | apply IsS48.alloc | apply IsS48.drewN | apply IsS48.drew | apply IsS48.set_0 | apply IsS48.set_1 | refine IsS48.far ?_ NB166_171.out _) | exact HI166.out)); (case side2 => repeat (first | (with_reducible first | exact HB.out | apply below_alloc | apply pw_below_drewN | apply below_drew1 | refine below_set ?_ (IsS48.ge HI166.out) | refine below_set ?_ GE171.out) | exact HB.out)); rintro e w56 ⟨rfl, hi, hb, hk⟩; refine ⟨_, rfl, ?_⟩; have n0_ := Aside0.mk (KeepBut.blk hk (g' := gb171) (o := .cells #[.int .i64 ((rd_T38 l2 x38_3).f0), .int .i64 ((rd_T38 l2 x38_3).f1), .int .i64 ((rd_T38 l2 x38_3).f2), .int .u64 ((rd_T38 l2 x38_3).f3)] 38 (0, 0)) (by (with_reducible repeat (first | refine blk_drewN ?_ _ | refine blk_drew ?_ | refine blk_alloc ?_ _)); exact BK171.out) NB171_166.out (by simp)); have n1_ := Aside0.mk (hb); have n2_ := Aside0.mk (hi); clear BK171; clear HB; clear HI166; have BK171 := n0_; have HB := n1_; have HI166 := n2_; clear n0_ n1_ n2_; (try clear hb); (try clear hb2); (try clear hk); (try clear hi)))
                                (try simp only [Act.put, sA, sB, sC])
                                go_cut [124] (fun v124 wc => ∃ (kq : Nat) (x124_49 : Bool) (x167000_49 : Int) (x167001_49 : Int), v124 = .bool x124_49 ∧ Aside0 (terracelaw19_SpeedBounds.j4 kq a0 l2 (l2.length : Int) x38_3 x124_49 x167000_49 x167001_49 = some r) ∧ Aside0 (kq ≤ k3) ∧ Aside0 (wc.heap[gb171]? = some (.cells #[.int .i64 ((rd_T38 l2 x38_3).f0), .int .i64 ((rd_T38 l2 x38_3).f1), .int .i64 ((rd_T38 l2 x38_3).f2), .int .u64 ((rd_T38 l2 x38_3).f3)] 38 (0, 0))) ∧ Aside0 (IsS48 w wc g166 x167000_49 x167001_49) ∧ Aside0 (Below w.heap.size w wc))
                                case first =>
                                  have H := HC50.out
                                  clear HC50
                                  replace H := Option.bind_eq_some_iff.mp H
                                  obtain ⟨⟨t188, t189, t190⟩, A570, H⟩ := H
                                  (try dsimp -simprocs only at H)
                                  have A57 := Aside0.mk A570
                                  clear A570
                                  replace H := Option.bind_eq_some_iff.mp H
                                  obtain ⟨t191, A580, H⟩ := H
                                  (try dsimp -simprocs only at H)
                                  have A58 := Aside0.mk A580
                                  clear A580
                                  by_cases c59 : t188 > t191
                                  · rw [if_pos c59] at H
                                    have c59b0 : decide (t191 < t188) = true := decide_eq_true c59
                                    clear c59
                                    (first | rw [c59b0] | (simp only [i64_w, i32_w]; rw [c59b0]) | skip)
                                    have H' := Aside0.mk H
                                    clear H
                                    try go_wp2
                                    have n0_ := Aside0.mk (blk_drew BK171.out)
                                    have n1_ := Aside0.mk (IsS48.drew HI166.out)
                                    have n2_ := Aside0.mk (below_drew1 HB.out)
                                    clear BK171
                                    clear HI166
                                    clear HB
                                    have BK171 := n0_
                                    have HI166 := n1_
                                    have HB := n2_
                                    clear n0_ n1_ n2_
                                    refine start_ (n := 34) (S := fun w' => True) (ds := []) #[nb, nb, nb, nb, nb, nb, nb, nb, nb, nb, nb, nb, nb, nb, nb, nb, nb, nb, nb, nb, nb, nb, nb, nb, nb, nb, nb, nb, nb, nb, nb, nb, nb, nb] (by kernel_rfl) rfl rfl trivial (fun hHeld => ?_); refine with_tabW terracelaw19_SpeedBounds.tab18 terracelaw19_SpeedBounds.bits18 (fun HT_ HW_ => ?_)
                                    generalize w56.drew = w60 at BK171 HI166 HB hHeld ⊢
                                    refine pure_ (i := 0) (N := some 91) (v := ?_) (a' := ?_) #[yb, nb, nb, nb, nb, nb, nb, nb, nb, nb, nb, nb, nb, nb, nb, nb, nb, nb, nb, nb, nb, nb, nb, nb, nb, nb, nb, nb, nb, nb, nb, nb, nb, nb] rfl rfl (any_of HT_.out (by kernel_rfl)) (fun _ _ _ h => h) (Or.inl ⟨by rfl, ?_⟩) ?_ ?_; rotate_left; (focus intro w'; go_simp; with_reducible rfl); rotate_left; (focus simp only [Act.put, sA, sB, sC, i64_w, i32_w]; rfl)
                                    refine pure_ (i := 2) (N := some 93) (v := ?_) (a' := ?_) #[yb, nb, yb, nb, nb, nb, nb, nb, nb, nb, nb, nb, nb, nb, nb, nb, nb, nb, nb, nb, nb, nb, nb, nb, nb, nb, nb, nb, nb, nb, nb, nb, nb, nb] rfl rfl (any_of HT_.out (by kernel_rfl)) (fun _ _ _ h => h) (Or.inl ⟨by rfl, ?_⟩) ?_ ?_; rotate_left; (focus intro w'; go_simp; with_reducible rfl); rotate_left; (focus simp only [Act.put, sA, sB, sC, i64_w, i32_w]; rfl)
                                    refine pure_ (i := 3) (N := some 94) (v := ?_) (a' := ?_) #[yb, nb, yb, yb, nb, nb, nb, nb, nb, nb, nb, nb, nb, nb, nb, nb, nb, nb, nb, nb, nb, nb, nb, nb, nb, nb, nb, nb, nb, nb, nb, nb, nb, nb] rfl rfl (any_of HT_.out (by kernel_rfl)) (fun _ _ _ h => h) (Or.inl ⟨by rfl, ?_⟩) ?_ ?_; rotate_left; (focus intro w'; go_simp; with_reducible rfl); rotate_left; (focus simp only [Act.put, sA, sB, sC, i64_w, i32_w]; rfl)
                                    refine one_ (i := 1) (N := some 92) #[yb, yb, yb, yb, nb, nb, nb, nb, nb, nb, nb, nb, nb, nb, nb, nb, nb, nb, nb, nb, nb, nb, nb, nb, nb, nb, nb, nb, nb, nb, nb, nb, nb, nb] rfl rfl (one_of HT_.out (by kernel_rfl)) (by decide) (fun K hK => ?_)
                                    refine goes_ Try.func11 (by kernel_rfl) rfl #[.pointer (some ⟨g166, 0, none⟩)] (by rfl) rfl rfl (by (try simp only [List.map_toArray, List.map_cons, List.map_nil]); first | done | rfl | (simp only [List.length_drop, List.length_take]; rfl)) ?_
                                    with_reducible refine (speed_Speed_Rate.calls g166 t186 t187 t188 t189 t190 w _ ?side1 ?side2 A57.out).mono ?_
                                    (case side1 => repeat (first | (with_reducible first | exact HI166.out | apply IsS48.alloc | apply IsS48.drewN | apply IsS48.drew | apply IsS48.set_0 | apply IsS48.set_1 | refine IsS48.far ?_ NB166_171.out _) | exact HI166.out))
                                    (case side2 => repeat (first | (with_reducible first | exact HB.out | apply below_alloc | apply pw_below_drewN | apply below_drew1 | refine below_set ?_ (IsS48.ge HI166.out) | refine below_set ?_ GE171.out) | exact HB.out))
                                    rintro e w61 ⟨rfl, hi, hb, hk⟩
                                    refine ⟨_, rfl, ?_⟩
                                    have n0_ := Aside0.mk (KeepBut.blk hk (g' := gb171) (o := .cells #[.int .i64 ((rd_T38 l2 x38_3).f0), .int .i64 ((rd_T38 l2 x38_3).f1), .int .i64 ((rd_T38 l2 x38_3).f2), .int .u64 ((rd_T38 l2 x38_3).f3)] 38 (0, 0)) (by (with_reducible repeat (first | refine blk_drewN ?_ _ | refine blk_drew ?_ | refine blk_alloc ?_ _)); exact BK171.out) NB171_166.out (by simp))
                                    have n1_ := Aside0.mk (hb)
                                    have n2_ := Aside0.mk (hi)
                                    clear BK171
                                    clear HB
                                    clear HI166
                                    have BK171 := n0_
                                    have HB := n1_
                                    have HI166 := n2_
                                    clear n0_ n1_ n2_
                                    (try clear hb)
                                    (try clear hb2)
                                    (try clear hk)
                                    (try clear hi)
                                    refine hK.out _ _ trivial (fun hHeld => ?_)
                                    clear hK K
                                    refine norm_ (a' := ?_) ?_ ?_; rotate_left; (focus show Act.put _ (some 92) _ = _; simp only [Act.put, sA, sB, sC, i64_w, i32_w]; rfl)
                                    refine one_ (i := 4) (N := some 95) #[yb, yb, yb, yb, yb, nb, nb, nb, nb, nb, nb, nb, nb, nb, nb, nb, nb, nb, nb, nb, nb, nb, nb, nb, nb, nb, nb, nb, nb, nb, nb, nb, nb, nb] rfl rfl (one_of HT_.out (by kernel_rfl)) (by decide) (fun K hK => ?_)
                                    refine goes_ Try.func12 (by kernel_rfl) rfl #[.int .u64 t172, .int .u64 t172] (by rfl) rfl rfl (by (try simp only [List.map_toArray, List.map_cons, List.map_nil]); first | done | rfl | (simp only [List.length_drop, List.length_take]; rfl)) ?_
                                    with_reducible refine (fix_F_Add.calls t172 t172 t191 _ A58.out).mono ?_
                                    rintro e w' ⟨rfl, ⟨nd, rfl⟩⟩
                                    refine ⟨_, rfl, ?_⟩
                                    refine hK.out _ _ trivial (fun hHeld => ?_)
                                    clear hK K
                                    refine norm_ (a' := ?_) ?_ ?_; rotate_left; (focus show Act.put _ (some 95) _ = _; simp only [Act.put, sA, sB, sC, i64_w, i32_w]; rfl)
                                    refine pure_ (i := 5) (N := some 96) (v := ?_) (a' := ?_) #[yb, yb, yb, yb, yb, yb, nb, nb, nb, nb, nb, nb, nb, nb, nb, nb, nb, nb, nb, nb, nb, nb, nb, nb, nb, nb, nb, nb, nb, nb, nb, nb, nb, nb] rfl rfl (any_of HT_.out (by kernel_rfl)) (fun _ _ _ h => h) (Or.inl ⟨by rfl, ?_⟩) ?_ ?_; rotate_left; (focus intro w'; go_simp; with_reducible rfl); rotate_left; (focus simp only [Act.put, sA, sB, sC, i64_w, i32_w]; rfl)
                                    refine pure_ (i := 6) (N := some 97) (v := ?_) (a' := ?_) #[yb, yb, yb, yb, yb, yb, yb, nb, nb, nb, nb, nb, nb, nb, nb, nb, nb, nb, nb, nb, nb, nb, nb, nb, nb, nb, nb, nb, nb, nb, nb, nb, nb, nb] rfl rfl (any_of HT_.out (by kernel_rfl)) (fun _ _ _ h => h) (Or.inl ⟨by rfl, ?_⟩) ?_ ?_; rotate_left; (focus intro w'; go_simp; with_reducible rfl); rotate_left; (focus simp only [Act.put, sA, sB, sC, i64_w, i32_w]; rfl)
                                    refine pure_ (i := 7) (N := some 98) (v := undef) (a' := ?_) #[yb, yb, yb, yb, yb, yb, yb, yb, nb, nb, nb, nb, nb, nb, nb, nb, nb, nb, nb, nb, nb, nb, nb, nb, nb, nb, nb, nb, nb, nb, nb, nb, nb, nb] rfl rfl (any_of HT_.out (by kernel_rfl)) (fun _ _ _ h => h) (Or.inr ⟨by rfl, rfl⟩) ?_ ?_; rotate_left; (focus simp only [Act.put, sA, sB, sC, i64_w, i32_w]; rfl)
                                    refine pure_ (i := 8) (N := some 99) (v := undef) (a' := ?_) #[yb, yb, yb, yb, yb, yb, yb, yb, yb, nb, nb, nb, nb, nb, nb, nb, nb, nb, nb, nb, nb, nb, nb, nb, nb, nb, nb, nb, nb, nb, nb, nb, nb, nb] rfl rfl (any_of HT_.out (by kernel_rfl)) (fun _ _ _ h => h) (Or.inr ⟨by rfl, rfl⟩) ?_ ?_; rotate_left; (focus simp only [Act.put, sA, sB, sC, i64_w, i32_w]; rfl)
                                    refine pure_ (i := 9) (N := some 100) (v := undef) (a' := ?_) #[yb, yb, yb, yb, yb, yb, yb, yb, yb, yb, nb, nb, nb, nb, nb, nb, nb, nb, nb, nb, nb, nb, nb, nb, nb, nb, nb, nb, nb, nb, nb, nb, nb, nb] rfl rfl (any_of HT_.out (by kernel_rfl)) (fun _ _ _ h => h) (Or.inr ⟨by rfl, rfl⟩) ?_ ?_; rotate_left; (focus simp only [Act.put, sA, sB, sC, i64_w, i32_w]; rfl)
                                    refine pure_ (i := 10) (N := some 101) (v := undef) (a' := ?_) #[yb, yb, yb, yb, yb, yb, yb, yb, yb, yb, yb, nb, nb, nb, nb, nb, nb, nb, nb, nb, nb, nb, nb, nb, nb, nb, nb, nb, nb, nb, nb, nb, nb, nb] rfl rfl (any_of HT_.out (by kernel_rfl)) (fun _ _ _ h => h) (Or.inr ⟨by rfl, rfl⟩) ?_ ?_; rotate_left; (focus simp only [Act.put, sA, sB, sC, i64_w, i32_w]; rfl)
                                    refine pure_ (i := 11) (N := some 102) (v := undef) (a' := ?_) #[yb, yb, yb, yb, yb, yb, yb, yb, yb, yb, yb, yb, nb, nb, nb, nb, nb, nb, nb, nb, nb, nb, nb, nb, nb, nb, nb, nb, nb, nb, nb, nb, nb, nb] rfl rfl (any_of HT_.out (by kernel_rfl)) (fun _ _ _ h => h) (Or.inr ⟨by rfl, rfl⟩) ?_ ?_; rotate_left; (focus simp only [Act.put, sA, sB, sC, i64_w, i32_w]; rfl)
                                    refine pure_ (i := 12) (N := some 103) (v := undef) (a' := ?_) #[yb, yb, yb, yb, yb, yb, yb, yb, yb, yb, yb, yb, yb, nb, nb, nb, nb, nb, nb, nb, nb, nb, nb, nb, nb, nb, nb, nb, nb, nb, nb, nb, nb, nb] rfl rfl (any_of HT_.out (by kernel_rfl)) (fun _ _ _ h => h) (Or.inr ⟨by rfl, rfl⟩) ?_ ?_; rotate_left; (focus simp only [Act.put, sA, sB, sC, i64_w, i32_w]; rfl)
                                    refine pure_ (i := 13) (N := some 104) (v := undef) (a' := ?_) #[yb, yb, yb, yb, yb, yb, yb, yb, yb, yb, yb, yb, yb, yb, nb, nb, nb, nb, nb, nb, nb, nb, nb, nb, nb, nb, nb, nb, nb, nb, nb, nb, nb, nb] rfl rfl (any_of HT_.out (by kernel_rfl)) (fun _ _ _ h => h) (Or.inr ⟨by rfl, rfl⟩) ?_ ?_; rotate_left; (focus simp only [Act.put, sA, sB, sC, i64_w, i32_w]; rfl)
                                    refine pure_ (i := 14) (N := some 105) (v := undef) (a' := ?_) #[yb, yb, yb, yb, yb, yb, yb, yb, yb, yb, yb, yb, yb, yb, yb, nb, nb, nb, nb, nb, nb, nb, nb, nb, nb, nb, nb, nb, nb, nb, nb, nb, nb, nb] rfl rfl (any_of HT_.out (by kernel_rfl)) (fun _ _ _ h => h) (Or.inr ⟨by rfl, rfl⟩) ?_ ?_; rotate_left; (focus simp only [Act.put, sA, sB, sC, i64_w, i32_w]; rfl)
                                    refine pure_ (i := 15) (N := some 106) (v := undef) (a' := ?_) #[yb, yb, yb, yb, yb, yb, yb, yb, yb, yb, yb, yb, yb, yb, yb, yb, nb, nb, nb, nb, nb, nb, nb, nb, nb, nb, nb, nb, nb, nb, nb, nb, nb, nb] rfl rfl (any_of HT_.out (by kernel_rfl)) (fun _ _ _ h => h) (Or.inr ⟨by rfl, rfl⟩) ?_ ?_; rotate_left; (focus simp only [Act.put, sA, sB, sC, i64_w, i32_w]; rfl)
                                    refine pure_ (i := 16) (N := some 107) (v := undef) (a' := ?_) #[yb, yb, yb, yb, yb, yb, yb, yb, yb, yb, yb, yb, yb, yb, yb, yb, yb, nb, nb, nb, nb, nb, nb, nb, nb, nb, nb, nb, nb, nb, nb, nb, nb, nb] rfl rfl (any_of HT_.out (by kernel_rfl)) (fun _ _ _ h => h) (Or.inr ⟨by rfl, rfl⟩) ?_ ?_; rotate_left; (focus simp only [Act.put, sA, sB, sC, i64_w, i32_w]; rfl)
                                    refine pure_ (i := 17) (N := some 108) (v := undef) (a' := ?_) #[yb, yb, yb, yb, yb, yb, yb, yb, yb, yb, yb, yb, yb, yb, yb, yb, yb, yb, nb, nb, nb, nb, nb, nb, nb, nb, nb, nb, nb, nb, nb, nb, nb, nb] rfl rfl (any_of HT_.out (by kernel_rfl)) (fun _ _ _ h => h) (Or.inr ⟨by rfl, rfl⟩) ?_ ?_; rotate_left; (focus simp only [Act.put, sA, sB, sC, i64_w, i32_w]; rfl)
                                    refine pure_ (i := 18) (N := some 109) (v := undef) (a' := ?_) #[yb, yb, yb, yb, yb, yb, yb, yb, yb, yb, yb, yb, yb, yb, yb, yb, yb, yb, yb, nb, nb, nb, nb, nb, nb, nb, nb, nb, nb, nb, nb, nb, nb, nb] rfl rfl (any_of HT_.out (by kernel_rfl)) (fun _ _ _ h => h) (Or.inr ⟨by rfl, rfl⟩) ?_ ?_; rotate_left; (focus simp only [Act.put, sA, sB, sC, i64_w, i32_w]; rfl)
                                    refine pure_ (i := 19) (N := some 110) (v := undef) (a' := ?_) #[yb, yb, yb, yb, yb, yb, yb, yb, yb, yb, yb, yb, yb, yb, yb, yb, yb, yb, yb, yb, nb, nb, nb, nb, nb, nb, nb, nb, nb, nb, nb, nb, nb, nb] rfl rfl (any_of HT_.out (by kernel_rfl)) (fun _ _ _ h => h) (Or.inr ⟨by rfl, rfl⟩) ?_ ?_; rotate_left; (focus simp only [Act.put, sA, sB, sC, i64_w, i32_w]; rfl)
                                    refine pure_ (i := 20) (N := some 111) (v := undef) (a' := ?_) #[yb, yb, yb, yb, yb, yb, yb, yb, yb, yb, yb, yb, yb, yb, yb, yb, yb, yb, yb, yb, yb, nb, nb, nb, nb, nb, nb, nb, nb, nb, nb, nb, nb, nb] rfl rfl (any_of HT_.out (by kernel_rfl)) (fun _ _ _ h => h) (Or.inr ⟨by rfl, rfl⟩) ?_ ?_; rotate_left; (focus simp only [Act.put, sA, sB, sC, i64_w, i32_w]; rfl)
                                    refine pure_ (i := 21) (N := some 112) (v := undef) (a' := ?_) #[yb, yb, yb, yb, yb, yb, yb, yb, yb, yb, yb, yb, yb, yb, yb, yb, yb, yb, yb, yb, yb, yb, nb, nb, nb, nb, nb, nb, nb, nb, nb, nb, nb, nb] rfl rfl (any_of HT_.out (by kernel_rfl)) (fun _ _ _ h => h) (Or.inr ⟨by rfl, rfl⟩) ?_ ?_; rotate_left; (focus simp only [Act.put, sA, sB, sC, i64_w, i32_w]; rfl)
                                    refine pure_ (i := 22) (N := some 113) (v := ?_) (a' := ?_) #[yb, yb, yb, yb, yb, yb, yb, yb, yb, yb, yb, yb, yb, yb, yb, yb, yb, yb, yb, yb, yb, yb, yb, nb, nb, nb, nb, nb, nb, nb, nb, nb, nb, nb] rfl rfl (any_of HT_.out (by kernel_rfl)) (fun _ _ _ h => h) (Or.inl ⟨by rfl, ?_⟩) ?_ ?_; rotate_left; (focus intro w'; go_simp; with_reducible rfl); rotate_left; (focus simp only [Act.put, sA, sB, sC, i64_w, i32_w]; rfl)
                                    refine pure_ (i := 23) (N := some 114) (v := ?_) (a' := ?_) #[yb, yb, yb, yb, yb, yb, yb, yb, yb, yb, yb, yb, yb, yb, yb, yb, yb, yb, yb, yb, yb, yb, yb, yb, nb, nb, nb, nb, nb, nb, nb, nb, nb, nb] rfl rfl (any_of HT_.out (by kernel_rfl)) (fun _ _ _ h => h) (Or.inl ⟨by rfl, ?_⟩) ?_ ?_; rotate_left; (focus intro w'; go_simp; with_reducible rfl); rotate_left; (focus simp only [Act.put, sA, sB, sC, i64_w, i32_w]; rfl)
                                    refine pure_ (i := 24) (N := some 115) (v := undef) (a' := ?_) #[yb, yb, yb, yb, yb, yb, yb, yb, yb, yb, yb, yb, yb, yb, yb, yb, yb, yb, yb, yb, yb, yb, yb, yb, yb, nb, nb, nb, nb, nb, nb, nb, nb, nb] rfl rfl (any_of HT_.out (by kernel_rfl)) (fun _ _ _ h => h) (Or.inr ⟨by rfl, rfl⟩) ?_ ?_; rotate_left; (focus simp only [Act.put, sA, sB, sC, i64_w, i32_w]; rfl)
                                    refine pure_ (i := 25) (N := some 116) (v := undef) (a' := ?_) #[yb, yb, yb, yb, yb, yb, yb, yb, yb, yb, yb, yb, yb, yb, yb, yb, yb, yb, yb, yb, yb, yb, yb, yb, yb, yb, nb, nb, nb, nb, nb, nb, nb, nb] rfl rfl (any_of HT_.out (by kernel_rfl)) (fun _ _ _ h => h) (Or.inr ⟨by rfl, rfl⟩) ?_ ?_; rotate_left; (focus simp only [Act.put, sA, sB, sC, i64_w, i32_w]; rfl)
                                    refine pure_ (i := 26) (N := some 117) (v := undef) (a' := ?_) #[yb, yb, yb, yb, yb, yb, yb, yb, yb, yb, yb, yb, yb, yb, yb, yb, yb, yb, yb, yb, yb, yb, yb, yb, yb, yb, yb, nb, nb, nb, nb, nb, nb, nb] rfl rfl (any_of HT_.out (by kernel_rfl)) (fun _ _ _ h => h) (Or.inr ⟨by rfl, rfl⟩) ?_ ?_; rotate_left; (focus simp only [Act.put, sA, sB, sC, i64_w, i32_w]; rfl)
                                    refine pure_ (i := 27) (N := some 118) (v := undef) (a' := ?_) #[yb, yb, yb, yb, yb, yb, yb, yb, yb, yb, yb, yb, yb, yb, yb, yb, yb, yb, yb, yb, yb, yb, yb, yb, yb, yb, yb, yb, nb, nb, nb, nb, nb, nb] rfl rfl (any_of HT_.out (by kernel_rfl)) (fun _ _ _ h => h) (Or.inr ⟨by rfl, rfl⟩) ?_ ?_; rotate_left; (focus simp only [Act.put, sA, sB, sC, i64_w, i32_w]; rfl)
                                    refine pure_ (i := 28) (N := some 119) (v := undef) (a' := ?_) #[yb, yb, yb, yb, yb, yb, yb, yb, yb, yb, yb, yb, yb, yb, yb, yb, yb, yb, yb, yb, yb, yb, yb, yb, yb, yb, yb, yb, yb, nb, nb, nb, nb, nb] rfl rfl (any_of HT_.out (by kernel_rfl)) (fun _ _ _ h => h) (Or.inr ⟨by rfl, rfl⟩) ?_ ?_; rotate_left; (focus simp only [Act.put, sA, sB, sC, i64_w, i32_w]; rfl)
                                    refine pure_ (i := 29) (N := some 120) (v := undef) (a' := ?_) #[yb, yb, yb, yb, yb, yb, yb, yb, yb, yb, yb, yb, yb, yb, yb, yb, yb, yb, yb, yb, yb, yb, yb, yb, yb, yb, yb, yb, yb, yb, nb, nb, nb, nb] rfl rfl (any_of HT_.out (by kernel_rfl)) (fun _ _ _ h => h) (Or.inr ⟨by rfl, rfl⟩) ?_ ?_; rotate_left; (focus simp only [Act.put, sA, sB, sC, i64_w, i32_w]; rfl)
                                    refine pure_ (i := 30) (N := some 121) (v := undef) (a' := ?_) #[yb, yb, yb, yb, yb, yb, yb, yb, yb, yb, yb, yb, yb, yb, yb, yb, yb, yb, yb, yb, yb, yb, yb, yb, yb, yb, yb, yb, yb, yb, yb, nb, nb, nb] rfl rfl (any_of HT_.out (by kernel_rfl)) (fun _ _ _ h => h) (Or.inr ⟨by rfl, rfl⟩) ?_ ?_; rotate_left; (focus simp only [Act.put, sA, sB, sC, i64_w, i32_w]; rfl)
                                    refine pure_ (i := 31) (N := some 122) (v := undef) (a' := ?_) #[yb, yb, yb, yb, yb, yb, yb, yb, yb, yb, yb, yb, yb, yb, yb, yb, yb, yb, yb, yb, yb, yb, yb, yb, yb, yb, yb, yb, yb, yb, yb, yb, nb, nb] rfl rfl (any_of HT_.out (by kernel_rfl)) (fun _ _ _ h => h) (Or.inr ⟨by rfl, rfl⟩) ?_ ?_; rotate_left; (focus simp only [Act.put, sA, sB, sC, i64_w, i32_w]; rfl)
                                    refine pure_ (i := 32) (N := some 123) (v := undef) (a' := ?_) #[yb, yb, yb, yb, yb, yb, yb, yb, yb, yb, yb, yb, yb, yb, yb, yb, yb, yb, yb, yb, yb, yb, yb, yb, yb, yb, yb, yb, yb, yb, yb, yb, yb, nb] rfl rfl (any_of HT_.out (by kernel_rfl)) (fun _ _ _ h => h) (Or.inr ⟨by rfl, rfl⟩) ?_ ?_; rotate_left; (focus simp only [Act.put, sA, sB, sC, i64_w, i32_w]; rfl)
                                    refine pure_ (i := 33) (N := some 124) (v := ?_) (a' := ?_) #[yb, yb, yb, yb, yb, yb, yb, yb, yb, yb, yb, yb, yb, yb, yb, yb, yb, yb, yb, yb, yb, yb, yb, yb, yb, yb, yb, yb, yb, yb, yb, yb, yb, yb] rfl rfl (any_of HT_.out (by kernel_rfl)) (fun _ _ _ h => h) (Or.inl ⟨by rfl, ?_⟩) ?_ ?_; rotate_left; (focus intro w'; go_simp; with_reducible rfl); rotate_left; (focus simp only [Act.put, sA, sB, sC, i64_w, i32_w]; rfl)
                                    refine done_ (done_of HT_.out (by kernel_rfl)) ?_
                                    try go_wp2
                                    go_meet
                                    case rel => exact ⟨_, (true), (t189), (t190), (by first | rfl | (simp; done) | (simp [*]; done)), H', ⟨by have := HJ8.out; have := HJ14.out; have := HK3.out; first | omega | exact Nat.le_refl _⟩, ⟨by (with_reducible repeat (first | refine blk_drewN ?_ _ | refine blk_drew ?_ | refine blk_alloc ?_ _)); exact BK171.out⟩, ⟨by repeat (first | (with_reducible first | exact HI166.out | apply IsS48.alloc | apply IsS48.drewN | apply IsS48.drew | apply IsS48.set_0 | apply IsS48.set_1 | refine IsS48.far ?_ NB166_171.out _) | exact HI166.out)⟩, ⟨by repeat (first | (with_reducible first | exact HB.out | apply below_alloc | apply pw_below_drewN | apply below_drew1 | refine below_set ?_ (IsS48.ge HI166.out) | refine below_set ?_ GE171.out) | exact HB.out)⟩⟩
                                  · rw [if_neg c59] at H
                                    have c59b0 : decide (t191 < t188) = false := decide_eq_false c59
                                    clear c59
                                    (first | rw [c59b0] | (simp only [i64_w, i32_w]; rw [c59b0]) | skip)
                                    by_cases c62 : ((rd_T38 l2 x38_3).f1) = 0
                                    · rw [if_pos c62] at H
                                      have c62b0 : (((rd_T38 l2 x38_3).f1) == 0) = true := beq_iff_eq.mpr c62
                                      have c62b1 : (((rd_T38 l2 x38_3).f1) != 0) = false := bne_eq_false_iff_eq.mpr c62
                                      clear c62
                                      replace H := Option.bind_eq_some_iff.mp H
                                      obtain ⟨⟨t192, t193, t194⟩, A630, H⟩ := H
                                      replace H : (terracelaw19_SpeedBounds.j4 k3 a0 l2 (l2.length : Int) x38_3 (t192 != t172) t193 t194) = some r := H
                                      have A63 := Aside0.mk A630
                                      clear A630
                                      have H' := Aside0.mk H
                                      clear H
                                      try go_wp2
                                      have n0_ := Aside0.mk (blk_drew BK171.out)
                                      have n1_ := Aside0.mk (IsS48.drew HI166.out)
                                      have n2_ := Aside0.mk (below_drew1 HB.out)
                                      clear BK171
                                      clear HI166
                                      clear HB
                                      have BK171 := n0_
                                      have HI166 := n1_
                                      have HB := n2_
                                      clear n0_ n1_ n2_
                                      refine start_ (n := 34) (S := fun w' => w'.cell? ⟨gb171, 0, none⟩ = some (.int .i64 ((rd_T38 l2 x38_3).f0)) ∧ w'.cell? ⟨gb171, 1, none⟩ = some (.int .i64 ((rd_T38 l2 x38_3).f1)) ∧ w'.cell? ⟨gb171, 2, none⟩ = some (.int .i64 ((rd_T38 l2 x38_3).f2)) ∧ w'.cell? ⟨gb171, 3, none⟩ = some (.int .u64 ((rd_T38 l2 x38_3).f3))) (ds := []) #[nb, nb, nb, nb, nb, nb, nb, nb, nb, nb, nb, nb, nb, nb, nb, nb, nb, nb, nb, nb, nb, nb, nb, nb, nb, nb, nb, nb, nb, nb, nb, nb, nb, nb] (by kernel_rfl) rfl rfl ⟨(blk_cell BK171.out 0).trans rfl, (blk_cell BK171.out 1).trans rfl, (blk_cell BK171.out 2).trans rfl, (blk_cell BK171.out 3).trans rfl⟩ (fun hHeld => ?_); refine with_tabW terracelaw19_SpeedBounds.tab18 terracelaw19_SpeedBounds.bits18 (fun HT_ HW_ => ?_)
                                      generalize w56.drew = w64 at BK171 HI166 HB hHeld ⊢
                                      refine pure_ (i := 0) (N := some 91) (v := ?_) (a' := ?_) #[yb, nb, nb, nb, nb, nb, nb, nb, nb, nb, nb, nb, nb, nb, nb, nb, nb, nb, nb, nb, nb, nb, nb, nb, nb, nb, nb, nb, nb, nb, nb, nb, nb, nb] rfl rfl (any_of HT_.out (by kernel_rfl)) (fun _ _ _ h => h) (Or.inl ⟨by rfl, ?_⟩) ?_ ?_; rotate_left; (focus intro w'; go_simp; with_reducible rfl); rotate_left; (focus simp only [Act.put, sA, sB, sC, i64_w, i32_w]; rfl)
                                      refine pure_ (i := 2) (N := some 93) (v := ?_) (a' := ?_) #[yb, nb, yb, nb, nb, nb, nb, nb, nb, nb, nb, nb, nb, nb, nb, nb, nb, nb, nb, nb, nb, nb, nb, nb, nb, nb, nb, nb, nb, nb, nb, nb, nb, nb] rfl rfl (any_of HT_.out (by kernel_rfl)) (fun _ _ _ h => h) (Or.inl ⟨by rfl, ?_⟩) ?_ ?_; rotate_left; (focus intro w'; go_simp; with_reducible rfl); rotate_left; (focus simp only [Act.put, sA, sB, sC, i64_w, i32_w]; rfl)
                                      refine pure_ (i := 3) (N := some 94) (v := ?_) (a' := ?_) #[yb, nb, yb, yb, nb, nb, nb, nb, nb, nb, nb, nb, nb, nb, nb, nb, nb, nb, nb, nb, nb, nb, nb, nb, nb, nb, nb, nb, nb, nb, nb, nb, nb, nb] rfl rfl (any_of HT_.out (by kernel_rfl)) (fun _ _ _ h => h) (Or.inl ⟨by rfl, ?_⟩) ?_ ?_; rotate_left; (focus intro w'; go_simp; with_reducible rfl); rotate_left; (focus simp only [Act.put, sA, sB, sC, i64_w, i32_w]; rfl)
                                      refine one_ (i := 1) (N := some 92) #[yb, yb, yb, yb, nb, nb, nb, nb, nb, nb, nb, nb, nb, nb, nb, nb, nb, nb, nb, nb, nb, nb, nb, nb, nb, nb, nb, nb, nb, nb, nb, nb, nb, nb] rfl rfl (one_of HT_.out (by kernel_rfl)) (by decide) (fun K hK => ?_)
                                      refine goes_ Try.func11 (by kernel_rfl) rfl #[.pointer (some ⟨g166, 0, none⟩)] (by rfl) rfl rfl (by (try simp only [List.map_toArray, List.map_cons, List.map_nil]); first | done | rfl | (simp only [List.length_drop, List.length_take]; rfl)) ?_
                                      with_reducible refine (speed_Speed_Rate.calls g166 t186 t187 t188 t189 t190 w _ ?side1 ?side2 A57.out).mono ?_
                                      (case side1 => repeat (first | (with_reducible first | exact HI166.out | apply IsS48.alloc | apply IsS48.drewN | apply IsS48.drew | apply IsS48.set_0 | apply IsS48.set_1 | refine IsS48.far ?_ NB166_171.out _) | exact HI166.out))
                                      (case side2 => repeat (first | (with_reducible first | exact HB.out | apply below_alloc | apply pw_below_drewN | apply below_drew1 | refine below_set ?_ (IsS48.ge HI166.out) | refine below_set ?_ GE171.out) | exact HB.out))
                                      rintro e w65 ⟨rfl, hi, hb, hk⟩
                                      refine ⟨_, rfl, ?_⟩
                                      have n0_ := Aside0.mk (KeepBut.blk hk (g' := gb171) (o := .cells #[.int .i64 ((rd_T38 l2 x38_3).f0), .int .i64 ((rd_T38 l2 x38_3).f1), .int .i64 ((rd_T38 l2 x38_3).f2), .int .u64 ((rd_T38 l2 x38_3).f3)] 38 (0, 0)) (by (with_reducible repeat (first | refine blk_drewN ?_ _ | refine blk_drew ?_ | refine blk_alloc ?_ _)); exact BK171.out) NB171_166.out (by simp))
                                      have n1_ := Aside0.mk (hb)
                                      have n2_ := Aside0.mk (hi)
                                      clear BK171
                                      clear HB
                                      clear HI166
                                      have BK171 := n0_
                                      have HB := n1_
                                      have HI166 := n2_
                                      clear n0_ n1_ n2_
                                      (try clear hb)
                                      (try clear hb2)
                                      (try clear hk)
                                      (try clear hi)
                                      refine hK.out _ _ ⟨(blk_cell BK171.out 0).trans rfl, (blk_cell BK171.out 1).trans rfl, (blk_cell BK171.out 2).trans rfl, (blk_cell BK171.out 3).trans rfl⟩ (fun hHeld => ?_)
                                      clear hK K
                                      refine norm_ (a' := ?_) ?_ ?_; rotate_left; (focus show Act.put _ (some 92) _ = _; simp only [Act.put, sA, sB, sC, i64_w, i32_w]; rfl)
                                      refine one_ (i := 4) (N := some 95) #[yb, yb, yb, yb, yb, nb, nb, nb, nb, nb, nb, nb, nb, nb, nb, nb, nb, nb, nb, nb, nb, nb, nb, nb, nb, nb, nb, nb, nb, nb, nb, nb, nb, nb] rfl rfl (one_of HT_.out (by kernel_rfl)) (by decide) (fun K hK => ?_)
                                      refine goes_ Try.func12 (by kernel_rfl) rfl #[.int .u64 t172, .int .u64 t172] (by rfl) rfl rfl (by (try simp only [List.map_toArray, List.map_cons, List.map_nil]); first | done | rfl | (simp only [List.length_drop, List.length_take]; rfl)) ?_
                                      with_reducible refine (fix_F_Add.calls t172 t172 t191 _ A58.out).mono ?_
                                      rintro e w' ⟨rfl, ⟨nd, rfl⟩⟩
                                      refine ⟨_, rfl, ?_⟩
                                      refine hK.out _ _ ⟨(blk_cell BK171.out 0).trans rfl, (blk_cell BK171.out 1).trans rfl, (blk_cell BK171.out 2).trans rfl, (blk_cell BK171.out 3).trans rfl⟩ (fun hHeld => ?_)
                                      clear hK K
                                      refine norm_ (a' := ?_) ?_ ?_; rotate_left; (focus show Act.put _ (some 95) _ = _; simp only [Act.put, sA, sB, sC, i64_w, i32_w]; rfl)
                                      refine pure_ (i := 5) (N := some 96) (v := ?_) (a' := ?_) #[yb, yb, yb, yb, yb, yb, nb, nb, nb, nb, nb, nb, nb, nb, nb, nb, nb, nb, nb, nb, nb, nb, nb, nb, nb, nb, nb, nb, nb, nb, nb, nb, nb, nb] rfl rfl (any_of HT_.out (by kernel_rfl)) (fun _ _ _ h => h) (Or.inl ⟨by rfl, ?_⟩) ?_ ?_; rotate_left; (focus intro w'; go_simp; with_reducible rfl); rotate_left; (focus simp only [Act.put, sA, sB, sC, i64_w, i32_w]; rfl)
                                      refine pure_ (i := 6) (N := some 97) (v := ?_) (a' := ?_) #[yb, yb, yb, yb, yb, yb, yb, nb, nb, nb, nb, nb, nb, nb, nb, nb, nb, nb, nb, nb, nb, nb, nb, nb, nb, nb, nb, nb, nb, nb, nb, nb, nb, nb] rfl rfl (any_of HT_.out (by kernel_rfl)) (fun _ _ _ h => h) (Or.inl ⟨by rfl, ?_⟩) ?_ ?_; rotate_left; (focus intro w'; go_simp; with_reducible rfl); rotate_left; (focus simp only [Act.put, sA, sB, sC, i64_w, i32_w]; rfl)
                                      refine pure_ (i := 7) (N := some 98) (v := ?_) (a' := ?_) #[yb, yb, yb, yb, yb, yb, yb, yb, nb, nb, nb, nb, nb, nb, nb, nb, nb, nb, nb, nb, nb, nb, nb, nb, nb, nb, nb, nb, nb, nb, nb, nb, nb, nb] rfl rfl (any_of HT_.out (by kernel_rfl)) (fun _ _ _ h => h) (Or.inl ⟨by rfl, ?_⟩) ?_ ?_; rotate_left; (focus intro w'; go_simp; with_reducible rfl); rotate_left; (focus simp only [Act.put, sA, sB, sC, i64_w, i32_w]; rfl)
                                      refine take_ (i := 8) (N := some 99) (v := ?_) (a' := ?_) #[yb, yb, yb, yb, yb, yb, yb, yb, yb, nb, nb, nb, nb, nb, nb, nb, nb, nb, nb, nb, nb, nb, nb, nb, nb, nb, nb, nb, nb, nb, nb, nb, nb, nb] rfl rfl (take_ofW HT_.out HW_.out (by kernel_rfl)) (fun _ _ _ h => h) (Or.inl ⟨by rfl, ?_⟩) hHeld ?_ ?_; rotate_left; (focus rintro w' ⟨s0, s1, s2, s3⟩; go_simp; with_reducible rfl); rotate_left; (focus simp only [Act.put, sA, sB, sC, i64_w, i32_w]; rfl)
                                      refine pure_ (i := 9) (N := some 100) (v := ?_) (a' := ?_) #[yb, yb, yb, yb, yb, yb, yb, yb, yb, yb, nb, nb, nb, nb, nb, nb, nb, nb, nb, nb, nb, nb, nb, nb, nb, nb, nb, nb, nb, nb, nb, nb, nb, nb] rfl rfl (any_of HT_.out (by kernel_rfl)) (fun _ _ _ h => h) (Or.inl ⟨by rfl, ?_⟩) ?_ ?_; rotate_left; (focus intro w'; go_simp; with_reducible rfl); rotate_left; (focus simp only [Act.put, sA, sB, sC, i64_w, i32_w]; rfl)
                                      refine pure_ (i := 10) (N := some 101) (v := ?_) (a' := ?_) #[yb, yb, yb, yb, yb, yb, yb, yb, yb, yb, yb, nb, nb, nb, nb, nb, nb, nb, nb, nb, nb, nb, nb, nb, nb, nb, nb, nb, nb, nb, nb, nb, nb, nb] rfl rfl (any_of HT_.out (by kernel_rfl)) (fun _ _ _ h => h) (Or.inl ⟨by rfl, ?_⟩) ?_ ?_; rotate_left; (focus intro w'; go_simp; with_reducible rfl); rotate_left; (focus simp only [Act.put, sA, sB, sC, i64_w, i32_w]; rfl)
                                      refine pure_ (i := 11) (N := some 102) (v := undef) (a' := ?_) #[yb, yb, yb, yb, yb, yb, yb, yb, yb, yb, yb, yb, nb, nb, nb, nb, nb, nb, nb, nb, nb, nb, nb, nb, nb, nb, nb, nb, nb, nb, nb, nb, nb, nb] rfl rfl (any_of HT_.out (by kernel_rfl)) (fun _ _ _ h => h) (Or.inr ⟨by rfl, rfl⟩) ?_ ?_; rotate_left; (focus simp only [Act.put, sA, sB, sC, i64_w, i32_w]; rfl)
                                      refine pure_ (i := 12) (N := some 103) (v := undef) (a' := ?_) #[yb, yb, yb, yb, yb, yb, yb, yb, yb, yb, yb, yb, yb, nb, nb, nb, nb, nb, nb, nb, nb, nb, nb, nb, nb, nb, nb, nb, nb, nb, nb, nb, nb, nb] rfl rfl (any_of HT_.out (by kernel_rfl)) (fun _ _ _ h => h) (Or.inr ⟨by rfl, rfl⟩) ?_ ?_; rotate_left; (focus simp only [Act.put, sA, sB, sC, i64_w, i32_w]; rfl)
                                      refine pure_ (i := 13) (N := some 104) (v := undef) (a' := ?_) #[yb, yb, yb, yb, yb, yb, yb, yb, yb, yb, yb, yb, yb, yb, nb, nb, nb, nb, nb, nb, nb, nb, nb, nb, nb, nb, nb, nb, nb, nb, nb, nb, nb, nb] rfl rfl (any_of HT_.out (by kernel_rfl)) (fun _ _ _ h => h) (Or.inr ⟨by rfl, rfl⟩) ?_ ?_; rotate_left; (focus simp only [Act.put, sA, sB, sC, i64_w, i32_w]; rfl)
                                      refine pure_ (i := 14) (N := some 105) (v := undef) (a' := ?_) #[yb, yb, yb, yb, yb, yb, yb, yb, yb, yb, yb, yb, yb, yb, yb, nb, nb, nb, nb, nb, nb, nb, nb, nb, nb, nb, nb, nb, nb, nb, nb, nb, nb, nb] rfl rfl (any_of HT_.out (by kernel_rfl)) (fun _ _ _ h => h) (Or.inr ⟨by rfl, rfl⟩) ?_ ?_; rotate_left; (focus simp only [Act.put, sA, sB, sC, i64_w, i32_w]; rfl)
                                      refine pure_ (i := 15) (N := some 106) (v := undef) (a' := ?_) #[yb, yb, yb, yb, yb, yb, yb, yb, yb, yb, yb, yb, yb, yb, yb, yb, nb, nb, nb, nb, nb, nb, nb, nb, nb, nb, nb, nb, nb, nb, nb, nb, nb, nb] rfl rfl (any_of HT_.out (by kernel_rfl)) (fun _ _ _ h => h) (Or.inr ⟨by rfl, rfl⟩) ?_ ?_; rotate_left; (focus simp only [Act.put, sA, sB, sC, i64_w, i32_w]; rfl)
                                      refine pure_ (i := 16) (N := some 107) (v := undef) (a' := ?_) #[yb, yb, yb, yb, yb, yb, yb, yb, yb, yb, yb, yb, yb, yb, yb, yb, yb, nb, nb, nb, nb, nb, nb, nb, nb, nb, nb, nb, nb, nb, nb, nb, nb, nb] rfl rfl (any_of HT_.out (by kernel_rfl)) (fun _ _ _ h => h) (Or.inr ⟨by rfl, rfl⟩) ?_ ?_; rotate_left; (focus simp only [Act.put, sA, sB, sC, i64_w, i32_w]; rfl)
                                      refine pure_ (i := 17) (N := some 108) (v := undef) (a' := ?_) #[yb, yb, yb, yb, yb, yb, yb, yb, yb, yb, yb, yb, yb, yb, yb, yb, yb, yb, nb, nb, nb, nb, nb, nb, nb, nb, nb, nb, nb, nb, nb, nb, nb, nb] rfl rfl (any_of HT_.out (by kernel_rfl)) (fun _ _ _ h => h) (Or.inr ⟨by rfl, rfl⟩) ?_ ?_; rotate_left; (focus simp only [Act.put, sA, sB, sC, i64_w, i32_w]; rfl)
                                      refine pure_ (i := 18) (N := some 109) (v := undef) (a' := ?_) #[yb, yb, yb, yb, yb, yb, yb, yb, yb, yb, yb, yb, yb, yb, yb, yb, yb, yb, yb, nb, nb, nb, nb, nb, nb, nb, nb, nb, nb, nb, nb, nb, nb, nb] rfl rfl (any_of HT_.out (by kernel_rfl)) (fun _ _ _ h => h) (Or.inr ⟨by rfl, rfl⟩) ?_ ?_; rotate_left; (focus simp only [Act.put, sA, sB, sC, i64_w, i32_w]; rfl)
                                      refine pure_ (i := 19) (N := some 110) (v := undef) (a' := ?_) #[yb, yb, yb, yb, yb, yb, yb, yb, yb, yb, yb, yb, yb, yb, yb, yb, yb, yb, yb, yb, nb, nb, nb, nb, nb, nb, nb, nb, nb, nb, nb, nb, nb, nb] rfl rfl (any_of HT_.out (by kernel_rfl)) (fun _ _ _ h => h) (Or.inr ⟨by rfl, rfl⟩) ?_ ?_; rotate_left; (focus simp only [Act.put, sA, sB, sC, i64_w, i32_w]; rfl)
                                      refine pure_ (i := 20) (N := some 111) (v := undef) (a' := ?_) #[yb, yb, yb, yb, yb, yb, yb, yb, yb, yb, yb, yb, yb, yb, yb, yb, yb, yb, yb, yb, yb, nb, nb, nb, nb, nb, nb, nb, nb, nb, nb, nb, nb, nb] rfl rfl (any_of HT_.out (by kernel_rfl)) (fun _ _ _ h => h) (Or.inr ⟨by rfl, rfl⟩) ?_ ?_; rotate_left; (focus simp only [Act.put, sA, sB, sC, i64_w, i32_w]; rfl)
                                      refine pure_ (i := 21) (N := some 112) (v := ?_) (a' := ?_) #[yb, yb, yb, yb, yb, yb, yb, yb, yb, yb, yb, yb, yb, yb, yb, yb, yb, yb, yb, yb, yb, yb, nb, nb, nb, nb, nb, nb, nb, nb, nb, nb, nb, nb] rfl rfl (any_of HT_.out (by kernel_rfl)) (fun _ _ _ h => h) (Or.inl ⟨by rfl, ?_⟩) ?_ ?_; rotate_left; (focus intro w'; go_simp; with_reducible rfl); rotate_left; (focus simp only [Act.put, sA, sB, sC, i64_w, i32_w]; rfl)
                                      refine pure_ (i := 22) (N := some 113) (v := ?_) (a' := ?_) #[yb, yb, yb, yb, yb, yb, yb, yb, yb, yb, yb, yb, yb, yb, yb, yb, yb, yb, yb, yb, yb, yb, yb, nb, nb, nb, nb, nb, nb, nb, nb, nb, nb, nb] rfl rfl (any_of HT_.out (by kernel_rfl)) (fun _ _ _ h => h) (Or.inl ⟨by rfl, ?_⟩) ?_ ?_; rotate_left; (focus intro w'; go_simp; with_reducible rfl); rotate_left; (focus simp only [Act.put, sA, sB, sC, i64_w, i32_w]; rfl)
                                      refine pure_ (i := 23) (N := some 114) (v := ?_) (a' := ?_) #[yb, yb, yb, yb, yb, yb, yb, yb, yb, yb, yb, yb, yb, yb, yb, yb, yb, yb, yb, yb, yb, yb, yb, yb, nb, nb, nb, nb, nb, nb, nb, nb, nb, nb] rfl rfl (any_of HT_.out (by kernel_rfl)) (fun _ _ _ h => h) (Or.inl ⟨by rfl, ?_⟩) ?_ ?_; rotate_left; (focus intro w'; go_simp; with_reducible rfl); rotate_left; (focus simp only [Act.put, sA, sB, sC, i64_w, i32_w]; rfl)
                                      refine pure_ (i := 24) (N := some 115) (v := ?_) (a' := ?_) #[yb, yb, yb, yb, yb, yb, yb, yb, yb, yb, yb, yb, yb, yb, yb, yb, yb, yb, yb, yb, yb, yb, yb, yb, yb, nb, nb, nb, nb, nb, nb, nb, nb, nb] rfl rfl (any_of HT_.out (by kernel_rfl)) (fun _ _ _ h => h) (Or.inl ⟨by rfl, ?_⟩) ?_ ?_; rotate_left; (focus intro w'; go_simp; with_reducible rfl); rotate_left; (focus simp only [Act.put, sA, sB, sC, i64_w, i32_w]; rfl)
                                      refine take_ (i := 25) (N := some 116) (v := ?_) (a' := ?_) #[yb, yb, yb, yb, yb, yb, yb, yb, yb, yb, yb, yb, yb, yb, yb, yb, yb, yb, yb, yb, yb, yb, yb, yb, yb, yb, nb, nb, nb, nb, nb, nb, nb, nb] rfl rfl (take_ofW HT_.out HW_.out (by kernel_rfl)) (fun _ _ _ h => h) (Or.inl ⟨by rfl, ?_⟩) hHeld ?_ ?_; rotate_left; (focus rintro w' ⟨s0, s1, s2, s3⟩; go_simp; with_reducible rfl); rotate_left; (focus simp only [Act.put, sA, sB, sC, i64_w, i32_w]; rfl)
                                      refine pure_ (i := 26) (N := some 117) (v := ?_) (a' := ?_) #[yb, yb, yb, yb, yb, yb, yb, yb, yb, yb, yb, yb, yb, yb, yb, yb, yb, yb, yb, yb, yb, yb, yb, yb, yb, yb, yb, nb, nb, nb, nb, nb, nb, nb] rfl rfl (any_of HT_.out (by kernel_rfl)) (fun _ _ _ h => h) (Or.inl ⟨by rfl, ?_⟩) ?_ ?_; rotate_left; (focus intro w'; go_simp; with_reducible rfl); rotate_left; (focus simp only [Act.put, sA, sB, sC, i64_w, i32_w]; rfl)
                                      refine pure_ (i := 27) (N := some 118) (v := ?_) (a' := ?_) #[yb, yb, yb, yb, yb, yb, yb, yb, yb, yb, yb, yb, yb, yb, yb, yb, yb, yb, yb, yb, yb, yb, yb, yb, yb, yb, yb, yb, nb, nb, nb, nb, nb, nb] rfl rfl (any_of HT_.out (by kernel_rfl)) (fun _ _ _ h => h) (Or.inl ⟨by rfl, ?_⟩) ?_ ?_; rotate_left; (focus intro w'; go_simp; with_reducible rfl); rotate_left; (focus simp only [Act.put, sA, sB, sC, i64_w, i32_w]; rfl)
                                      refine pure_ (i := 28) (N := some 119) (v := ?_) (a' := ?_) #[yb, yb, yb, yb, yb, yb, yb, yb, yb, yb, yb, yb, yb, yb, yb, yb, yb, yb, yb, yb, yb, yb, yb, yb, yb, yb, yb, yb, yb, nb, nb, nb, nb, nb] rfl rfl (any_of HT_.out (by kernel_rfl)) (fun _ _ _ h => h) (Or.inl ⟨by rfl, ?_⟩) ?_ ?_; rotate_left; (focus intro w'; go_simp; with_reducible rfl); rotate_left; (focus simp only [Act.put, sA, sB, sC, i64_w, i32_w]; rfl)
                                      refine pure_ (i := 30) (N := some 121) (v := ?_) (a' := ?_) #[yb, yb, yb, yb, yb, yb, yb, yb, yb, yb, yb, yb, yb, yb, yb, yb, yb, yb, yb, yb, yb, yb, yb, yb, yb, yb, yb, yb, yb, nb, yb, nb, nb, nb] rfl rfl (any_of HT_.out (by kernel_rfl)) (fun _ _ _ h => h) (Or.inl ⟨by rfl, ?_⟩) ?_ ?_; rotate_left; (focus intro w'; go_simp; with_reducible rfl); rotate_left; (focus simp only [Act.put, sA, sB, sC, i64_w, i32_w]; rfl)
                                      refine one_ (i := 29) (N := some 120) #[yb, yb, yb, yb, yb, yb, yb, yb, yb, yb, yb, yb, yb, yb, yb, yb, yb, yb, yb, yb, yb, yb, yb, yb, yb, yb, yb, yb, yb, yb, yb, nb, nb, nb] rfl rfl (one_of HT_.out (by kernel_rfl)) (by decide) (fun K hK => ?_)
                                      refine goes_ Try.func11 (by kernel_rfl) rfl #[.pointer (some ⟨g166, 0, none⟩)] (by rfl) rfl rfl (by (try simp only [List.map_toArray, List.map_cons, List.map_nil]); first | done | rfl | (simp only [List.length_drop, List.length_take]; rfl)) ?_
                                      with_reducible refine (speed_Speed_Rate.calls g166 t189 t190 t192 t193 t194 w _ ?side1 ?side2 A63.out).mono ?_
                                      (case side1 => repeat (first | (with_reducible first | exact HI166.out | apply IsS48.alloc | apply IsS48.drewN | apply IsS48.drew | apply IsS48.set_0 | apply IsS48.set_1 | refine IsS48.far ?_ NB166_171.out _) | exact HI166.out))
                                      (case side2 => repeat (first | (with_reducible first | exact HB.out | apply below_alloc | apply pw_below_drewN | apply below_drew1 | refine below_set ?_ (IsS48.ge HI166.out) | refine below_set ?_ GE171.out) | exact HB.out))
                                      rintro e w66 ⟨rfl, hi, hb, hk⟩
                                      refine ⟨_, rfl, ?_⟩
                                      have n0_ := Aside0.mk (KeepBut.blk hk (g' := gb171) (o := .cells #[.int .i64 ((rd_T38 l2 x38_3).f0), .int .i64 ((rd_T38 l2 x38_3).f1), .int .i64 ((rd_T38 l2 x38_3).f2), .int .u64 ((rd_T38 l2 x38_3).f3)] 38 (0, 0)) (by (with_reducible repeat (first | refine blk_drewN ?_ _ | refine blk_drew ?_ | refine blk_alloc ?_ _)); exact BK171.out) NB171_166.out (by simp))
                                      have n1_ := Aside0.mk (hb)
                                      have n2_ := Aside0.mk (hi)
                                      clear BK171
                                      clear HB
                                      clear HI166
                                      have BK171 := n0_
                                      have HB := n1_
                                      have HI166 := n2_
                                      clear n0_ n1_ n2_
                                      (try clear hb)
                                      (try clear hb2)
                                      (try clear hk)
                                      (try clear hi)
                                      refine hK.out _ _ ⟨(blk_cell BK171.out 0).trans rfl, (blk_cell BK171.out 1).trans rfl, (blk_cell BK171.out 2).trans rfl, (blk_cell BK171.out 3).trans rfl⟩ (fun hHeld => ?_)
                                      clear hK K
                                      refine norm_ (a' := ?_) ?_ ?_; rotate_left; (focus show Act.put _ (some 120) _ = _; simp only [Act.put, sA, sB, sC, i64_w, i32_w]; rfl)
                                      refine pure_ (i := 31) (N := some 122) (v := ?_) (a' := ?_) #[yb, yb, yb, yb, yb, yb, yb, yb, yb, yb, yb, yb, yb, yb, yb, yb, yb, yb, yb, yb, yb, yb, yb, yb, yb, yb, yb, yb, yb, yb, yb, yb, nb, nb] rfl rfl (any_of HT_.out (by kernel_rfl)) (fun _ _ _ h => h) (Or.inl ⟨by rfl, ?_⟩) ?_ ?_; rotate_left; (focus intro w'; go_simp; with_reducible rfl); rotate_left; (focus simp only [Act.put, sA, sB, sC, i64_w, i32_w]; rfl)
                                      refine pure_ (i := 32) (N := some 123) (v := ?_) (a' := ?_) #[yb, yb, yb, yb, yb, yb, yb, yb, yb, yb, yb, yb, yb, yb, yb, yb, yb, yb, yb, yb, yb, yb, yb, yb, yb, yb, yb, yb, yb, yb, yb, yb, yb, nb] rfl rfl (any_of HT_.out (by kernel_rfl)) (fun _ _ _ h => h) (Or.inl ⟨by rfl, ?_⟩) ?_ ?_; rotate_left; (focus intro w'; go_simp; with_reducible rfl); rotate_left; (focus simp only [Act.put, sA, sB, sC, i64_w, i32_w]; rfl)
                                      refine pure_ (i := 33) (N := some 124) (v := ?_) (a' := ?_) #[yb, yb, yb, yb, yb, yb, yb, yb, yb, yb, yb, yb, yb, yb, yb, yb, yb, yb, yb, yb, yb, yb, yb, yb, yb, yb, yb, yb, yb, yb, yb, yb, yb, yb] rfl rfl (any_of HT_.out (by kernel_rfl)) (fun _ _ _ h => h) (Or.inl ⟨by rfl, ?_⟩) ?_ ?_; rotate_left; (focus intro w'; go_simp; with_reducible rfl); rotate_left; (focus simp only [Act.put, sA, sB, sC, i64_w, i32_w]; rfl)
                                      refine done_ (done_of HT_.out (by kernel_rfl)) ?_
                                      try go_wp2
                                      go_meet
                                      case rel => exact ⟨_, ((t192 != t172)), (t193), (t194), (by first | rfl | (simp; done) | (simp [*]; done)), H', ⟨by have := HJ8.out; have := HJ14.out; have := HK3.out; first | omega | exact Nat.le_refl _⟩, ⟨by (with_reducible repeat (first | refine blk_drewN ?_ _ | refine blk_drew ?_ | refine blk_alloc ?_ _)); exact BK171.out⟩, ⟨by repeat (first | (with_reducible first | exact HI166.out | apply IsS48.alloc | apply IsS48.drewN | apply IsS48.drew | apply IsS48.set_0 | apply IsS48.set_1 | refine IsS48.far ?_ NB166_171.out _) | exact HI166.out)⟩, ⟨by repeat (first | (with_reducible first | exact HB.out | apply below_alloc | apply pw_below_drewN | apply below_drew1 | refine below_set ?_ (IsS48.ge HI166.out) | refine below_set ?_ GE171.out) | exact HB.out)⟩⟩
                                    · rw [if_neg c62] at H
                                      have c62b0 : (((rd_T38 l2 x38_3).f1) == 0) = false := beq_eq_false_iff_ne.mpr c62
                                      have c62b1 : (((rd_T38 l2 x38_3).f1) != 0) = true := bne_iff_ne.mpr c62
                                      replace H := Option.bind_eq_some_iff.mp H
                                      obtain ⟨⟨t195, t196, t197⟩, A670, H⟩ := H
                                      replace H : ((fix_F_Add.f ((rd_T38 l2 x38_3).f3) ((rd_T38 l2 x38_3).f3)).bind fun t198 => (if t195 > (mx t198 a0) then (terracelaw19_SpeedBounds.j4 k3 a0 l2 (l2.length : Int) x38_3 true t196 t197) else (terracelaw19_SpeedBounds.j4 k3 a0 l2 (l2.length : Int) x38_3 false t196 t197))) = some r := H
                                      have A67 := Aside0.mk A670
                                      clear A670
                                      replace H := Option.bind_eq_some_iff.mp H
                                      obtain ⟨t198, A680, H⟩ := H
                                      replace H : (if t195 > (mx t198 a0) then (terracelaw19_SpeedBounds.j4 k3 a0 l2 (l2.length : Int) x38_3 true t196 t197) else (terracelaw19_SpeedBounds.j4 k3 a0 l2 (l2.length : Int) x38_3 false t196 t197)) = some r := H
                                      have A68 := Aside0.mk A680
                                      clear A680
                                      obtain ⟨ji69, hji69⟩ : ∃ j_ : Int, (mx t198 a0) = j_ := ⟨_, rfl⟩
                                      replace H : (if t195 > (ji69) then (terracelaw19_SpeedBounds.j4 k3 a0 l2 (l2.length : Int) x38_3 true t196 t197) else (terracelaw19_SpeedBounds.j4 k3 a0 l2 (l2.length : Int) x38_3 false t196 t197)) = some r := by first | (rw [hji69] at H; exact H) | (simp only [hji69] at H ⊢; exact H)
                                      (try rw [hji69] at A57)
                                      (try rw [hji69] at A58)
                                      (try rw [hji69] at A67)
                                      (try rw [hji69] at A68)
                                      have hji69_ : (if t198 < a0 then a0 else t198) = ji69 := hji69
                                      by_cases c70 : t195 > (ji69)
                                      · rw [if_pos c70] at H
                                        have c70b0 : decide ((ji69) < t195) = true := decide_eq_true c70
                                        clear c70
                                        have H' := Aside0.mk H
                                        clear H
                                        try go_wp2
                                        have n0_ := Aside0.mk (blk_drew BK171.out)
                                        have n1_ := Aside0.mk (IsS48.drew HI166.out)
                                        have n2_ := Aside0.mk (below_drew1 HB.out)
                                        clear BK171
                                        clear HI166
                                        clear HB
                                        have BK171 := n0_
                                        have HI166 := n1_
                                        have HB := n2_
                                        clear n0_ n1_ n2_
                                        refine start_ (n := 34) (S := fun w' => w'.cell? ⟨gb171, 0, none⟩ = some (.int .i64 ((rd_T38 l2 x38_3).f0)) ∧ w'.cell? ⟨gb171, 1, none⟩ = some (.int .i64 ((rd_T38 l2 x38_3).f1)) ∧ w'.cell? ⟨gb171, 2, none⟩ = some (.int .i64 ((rd_T38 l2 x38_3).f2)) ∧ w'.cell? ⟨gb171, 3, none⟩ = some (.int .u64 ((rd_T38 l2 x38_3).f3))) (ds := []) #[nb, nb, nb, nb, nb, nb, nb, nb, nb, nb, nb, nb, nb, nb, nb, nb, nb, nb, nb, nb, nb, nb, nb, nb, nb, nb, nb, nb, nb, nb, nb, nb, nb, nb] (by kernel_rfl) rfl rfl ⟨(blk_cell BK171.out 0).trans rfl, (blk_cell BK171.out 1).trans rfl, (blk_cell BK171.out 2).trans rfl, (blk_cell BK171.out 3).trans rfl⟩ (fun hHeld => ?_); refine with_tabW terracelaw19_SpeedBounds.tab18 terracelaw19_SpeedBounds.bits18 (fun HT_ HW_ => ?_)
                                        generalize w56.drew = w71 at BK171 HI166 HB hHeld ⊢
                                        refine pure_ (i := 0) (N := some 91) (v := ?_) (a' := ?_) #[yb, nb, nb, nb, nb, nb, nb, nb, nb, nb, nb, nb, nb, nb, nb, nb, nb, nb, nb, nb, nb, nb, nb, nb, nb, nb, nb, nb, nb, nb, nb, nb, nb, nb] rfl rfl (any_of HT_.out (by kernel_rfl)) (fun _ _ _ h => h) (Or.inl ⟨by rfl, ?_⟩) ?_ ?_; rotate_left; (focus intro w'; go_simp; with_reducible rfl); rotate_left; (focus simp only [Act.put, sA, sB, sC, i64_w, i32_w]; rfl)
                                        refine pure_ (i := 2) (N := some 93) (v := ?_) (a' := ?_) #[yb, nb, yb, nb, nb, nb, nb, nb, nb, nb, nb, nb, nb, nb, nb, nb, nb, nb, nb, nb, nb, nb, nb, nb, nb, nb, nb, nb, nb, nb, nb, nb, nb, nb] rfl rfl (any_of HT_.out (by kernel_rfl)) (fun _ _ _ h => h) (Or.inl ⟨by rfl, ?_⟩) ?_ ?_; rotate_left; (focus intro w'; go_simp; with_reducible rfl); rotate_left; (focus simp only [Act.put, sA, sB, sC, i64_w, i32_w]; rfl)
                                        refine pure_ (i := 3) (N := some 94) (v := ?_) (a' := ?_) #[yb, nb, yb, yb, nb, nb, nb, nb, nb, nb, nb, nb, nb, nb, nb, nb, nb, nb, nb, nb, nb, nb, nb, nb, nb, nb, nb, nb, nb, nb, nb, nb, nb, nb] rfl rfl (any_of HT_.out (by kernel_rfl)) (fun _ _ _ h => h) (Or.inl ⟨by rfl, ?_⟩) ?_ ?_; rotate_left; (focus intro w'; go_simp; with_reducible rfl); rotate_left; (focus simp only [Act.put, sA, sB, sC, i64_w, i32_w]; rfl)
                                        refine one_ (i := 1) (N := some 92) #[yb, yb, yb, yb, nb, nb, nb, nb, nb, nb, nb, nb, nb, nb, nb, nb, nb, nb, nb, nb, nb, nb, nb, nb, nb, nb, nb, nb, nb, nb, nb, nb, nb, nb] rfl rfl (one_of HT_.out (by kernel_rfl)) (by decide) (fun K hK => ?_)
                                        refine goes_ Try.func11 (by kernel_rfl) rfl #[.pointer (some ⟨g166, 0, none⟩)] (by rfl) rfl rfl (by (try simp only [List.map_toArray, List.map_cons, List.map_nil]); first | done | rfl | (simp only [List.length_drop, List.length_take]; rfl)) ?_
                                        with_reducible refine (speed_Speed_Rate.calls g166 t186 t187 t188 t189 t190 w _ ?side1 ?side2 A57.out).mono ?_
                                        (case side1 => repeat (first | (with_reducible first | exact HI166.out | apply IsS48.alloc | apply IsS48.drewN | apply IsS48.drew | apply IsS48.set_0 | apply IsS48.set_1 | refine IsS48.far ?_ NB166_171.out _) | exact HI166.out))
                                        (case side2 => repeat (first | (with_reducible first | exact HB.out | apply below_alloc | apply pw_below_drewN | apply below_drew1 | refine below_set ?_ (IsS48.ge HI166.out) | refine below_set ?_ GE171.out) | exact HB.out))
                                        rintro e w72 ⟨rfl, hi, hb, hk⟩
                                        refine ⟨_, rfl, ?_⟩
                                        have n0_ := Aside0.mk (KeepBut.blk hk (g' := gb171) (o := .cells #[.int .i64 ((rd_T38 l2 x38_3).f0), .int .i64 ((rd_T38 l2 x38_3).f1), .int .i64 ((rd_T38 l2 x38_3).f2), .int .u64 ((rd_T38 l2 x38_3).f3)] 38 (0, 0)) (by (with_reducible repeat (first | refine blk_drewN ?_ _ | refine blk_drew ?_ | refine blk_alloc ?_ _)); exact BK171.out) NB171_166.out (by simp))
                                        have n1_ := Aside0.mk (hb)
                                        have n2_ := Aside0.mk (hi)
                                        clear BK171
                                        clear HB
                                        clear HI166
                                        have BK171 := n0_
                                        have HB := n1_
                                        have HI166 := n2_
                                        clear n0_ n1_ n2_
                                        (try clear hb)
                                        (try clear hb2)
                                        (try clear hk)
                                        (try clear hi)
                                        refine hK.out _ _ ⟨(blk_cell BK171.out 0).trans rfl, (blk_cell BK171.out 1).trans rfl, (blk_cell BK171.out 2).trans rfl, (blk_cell BK171.out 3).trans rfl⟩ (fun hHeld => ?_)
                                        clear hK K
                                        refine norm_ (a' := ?_) ?_ ?_; rotate_left; (focus show Act.put _ (some 92) _ = _; simp only [Act.put, sA, sB, sC, i64_w, i32_w]; rfl)
                                        refine one_ (i := 4) (N := some 95) #[yb, yb, yb, yb, yb, nb, nb, nb, nb, nb, nb, nb, nb, nb, nb, nb, nb, nb, nb, nb, nb, nb, nb, nb, nb, nb, nb, nb, nb, nb, nb, nb, nb, nb] rfl rfl (one_of HT_.out (by kernel_rfl)) (by decide) (fun K hK => ?_)
                                        refine goes_ Try.func12 (by kernel_rfl) rfl #[.int .u64 t172, .int .u64 t172] (by rfl) rfl rfl (by (try simp only [List.map_toArray, List.map_cons, List.map_nil]); first | done | rfl | (simp only [List.length_drop, List.length_take]; rfl)) ?_
                                        with_reducible refine (fix_F_Add.calls t172 t172 t191 _ A58.out).mono ?_
                                        rintro e w' ⟨rfl, ⟨nd, rfl⟩⟩
                                        refine ⟨_, rfl, ?_⟩
                                        refine hK.out _ _ ⟨(blk_cell BK171.out 0).trans rfl, (blk_cell BK171.out 1).trans rfl, (blk_cell BK171.out 2).trans rfl, (blk_cell BK171.out 3).trans rfl⟩ (fun hHeld => ?_)
                                        clear hK K
                                        refine norm_ (a' := ?_) ?_ ?_; rotate_left; (focus show Act.put _ (some 95) _ = _; simp only [Act.put, sA, sB, sC, i64_w, i32_w]; rfl)
                                        refine pure_ (i := 5) (N := some 96) (v := ?_) (a' := ?_) #[yb, yb, yb, yb, yb, yb, nb, nb, nb, nb, nb, nb, nb, nb, nb, nb, nb, nb, nb, nb, nb, nb, nb, nb, nb, nb, nb, nb, nb, nb, nb, nb, nb, nb] rfl rfl (any_of HT_.out (by kernel_rfl)) (fun _ _ _ h => h) (Or.inl ⟨by rfl, ?_⟩) ?_ ?_; rotate_left; (focus intro w'; go_simp; with_reducible rfl); rotate_left; (focus simp only [Act.put, sA, sB, sC, i64_w, i32_w]; rfl)
                                        refine pure_ (i := 6) (N := some 97) (v := ?_) (a' := ?_) #[yb, yb, yb, yb, yb, yb, yb, nb, nb, nb, nb, nb, nb, nb, nb, nb, nb, nb, nb, nb, nb, nb, nb, nb, nb, nb, nb, nb, nb, nb, nb, nb, nb, nb] rfl rfl (any_of HT_.out (by kernel_rfl)) (fun _ _ _ h => h) (Or.inl ⟨by rfl, ?_⟩) ?_ ?_; rotate_left; (focus intro w'; go_simp; with_reducible rfl); rotate_left; (focus simp only [Act.put, sA, sB, sC, i64_w, i32_w]; rfl)
                                        refine pure_ (i := 7) (N := some 98) (v := ?_) (a' := ?_) #[yb, yb, yb, yb, yb, yb, yb, yb, nb, nb, nb, nb, nb, nb, nb, nb, nb, nb, nb, nb, nb, nb, nb, nb, nb, nb, nb, nb, nb, nb, nb, nb, nb, nb] rfl rfl (any_of HT_.out (by kernel_rfl)) (fun _ _ _ h => h) (Or.inl ⟨by rfl, ?_⟩) ?_ ?_; rotate_left; (focus intro w'; go_simp; with_reducible rfl); rotate_left; (focus simp only [Act.put, sA, sB, sC, i64_w, i32_w]; rfl)
                                        refine take_ (i := 8) (N := some 99) (v := ?_) (a' := ?_) #[yb, yb, yb, yb, yb, yb, yb, yb, yb, nb, nb, nb, nb, nb, nb, nb, nb, nb, nb, nb, nb, nb, nb, nb, nb, nb, nb, nb, nb, nb, nb, nb, nb, nb] rfl rfl (take_ofW HT_.out HW_.out (by kernel_rfl)) (fun _ _ _ h => h) (Or.inl ⟨by rfl, ?_⟩) hHeld ?_ ?_; rotate_left; (focus rintro w' ⟨s0, s1, s2, s3⟩; go_simp; with_reducible rfl); rotate_left; (focus simp only [Act.put, sA, sB, sC, i64_w, i32_w]; rfl)
                                        refine pure_ (i := 9) (N := some 100) (v := ?_) (a' := ?_) #[yb, yb, yb, yb, yb, yb, yb, yb, yb, yb, nb, nb, nb, nb, nb, nb, nb, nb, nb, nb, nb, nb, nb, nb, nb, nb, nb, nb, nb, nb, nb, nb, nb, nb] rfl rfl (any_of HT_.out (by kernel_rfl)) (fun _ _ _ h => h) (Or.inl ⟨by rfl, ?_⟩) ?_ ?_; rotate_left; (focus intro w'; go_simp; with_reducible rfl); rotate_left; (focus simp only [Act.put, sA, sB, sC, i64_w, i32_w]; rfl)
                                        refine pure_ (i := 10) (N := some 101) (v := ?_) (a' := ?_) #[yb, yb, yb, yb, yb, yb, yb, yb, yb, yb, yb, nb, nb, nb, nb, nb, nb, nb, nb, nb, nb, nb, nb, nb, nb, nb, nb, nb, nb, nb, nb, nb, nb, nb] rfl rfl (any_of HT_.out (by kernel_rfl)) (fun _ _ _ h => h) (Or.inl ⟨by rfl, ?_⟩) ?_ ?_; rotate_left; (focus intro w'; go_simp; with_reducible rfl); rotate_left; (focus simp only [Act.put, sA, sB, sC, i64_w, i32_w]; rfl)
                                        refine pure_ (i := 11) (N := some 102) (v := ?_) (a' := ?_) #[yb, yb, yb, yb, yb, yb, yb, yb, yb, yb, yb, yb, nb, nb, nb, nb, nb, nb, nb, nb, nb, nb, nb, nb, nb, nb, nb, nb, nb, nb, nb, nb, nb, nb] rfl rfl (any_of HT_.out (by kernel_rfl)) (fun _ _ _ h => h) (Or.inl ⟨by rfl, ?_⟩) ?_ ?_; rotate_left; (focus intro w'; go_simp; with_reducible rfl); rotate_left; (focus simp only [Act.put, sA, sB, sC, i64_w, i32_w]; rfl)
                                        refine pure_ (i := 13) (N := some 104) (v := ?_) (a' := ?_) #[yb, yb, yb, yb, yb, yb, yb, yb, yb, yb, yb, yb, nb, yb, nb, nb, nb, nb, nb, nb, nb, nb, nb, nb, nb, nb, nb, nb, nb, nb, nb, nb, nb, nb] rfl rfl (any_of HT_.out (by kernel_rfl)) (fun _ _ _ h => h) (Or.inl ⟨by rfl, ?_⟩) ?_ ?_; rotate_left; (focus intro w'; go_simp; with_reducible rfl); rotate_left; (focus simp only [Act.put, sA, sB, sC, i64_w, i32_w]; rfl)
                                        refine pure_ (i := 15) (N := some 106) (v := ?_) (a' := ?_) #[yb, yb, yb, yb, yb, yb, yb, yb, yb, yb, yb, yb, nb, yb, nb, yb, nb, nb, nb, nb, nb, nb, nb, nb, nb, nb, nb, nb, nb, nb, nb, nb, nb, nb] rfl rfl (any_of HT_.out (by kernel_rfl)) (fun _ _ _ h => h) (Or.inl ⟨by rfl, ?_⟩) ?_ ?_; rotate_left; (focus intro w'; go_simp; with_reducible rfl); rotate_left; (focus simp only [Act.put, sA, sB, sC, i64_w, i32_w]; rfl)
                                        refine pure_ (i := 18) (N := some 109) (v := ?_) (a' := ?_) #[yb, yb, yb, yb, yb, yb, yb, yb, yb, yb, yb, yb, nb, yb, nb, yb, nb, nb, yb, nb, nb, nb, nb, nb, nb, nb, nb, nb, nb, nb, nb, nb, nb, nb] rfl rfl (any_of HT_.out (by kernel_rfl)) (fun _ _ _ h => h) (Or.inl ⟨by rfl, ?_⟩) ?_ ?_; rotate_left; (focus intro w'; go_simp; with_reducible rfl); rotate_left; (focus simp only [Act.put, sA, sB, sC, i64_w, i32_w]; rfl)
                                        refine take_ (i := 14) (N := some 105) (v := ?_) (a' := ?_) #[yb, yb, yb, yb, yb, yb, yb, yb, yb, yb, yb, yb, nb, yb, yb, yb, nb, nb, yb, nb, nb, nb, nb, nb, nb, nb, nb, nb, nb, nb, nb, nb, nb, nb] rfl rfl (take_ofW HT_.out HW_.out (by kernel_rfl)) (fun _ _ _ h => h) (Or.inl ⟨by rfl, ?_⟩) hHeld ?_ ?_; rotate_left; (focus rintro w' ⟨s0, s1, s2, s3⟩; go_simp; with_reducible rfl); rotate_left; (focus simp only [Act.put, sA, sB, sC, i64_w, i32_w]; rfl)
                                        refine take_ (i := 16) (N := some 107) (v := ?_) (a' := ?_) #[yb, yb, yb, yb, yb, yb, yb, yb, yb, yb, yb, yb, nb, yb, yb, yb, yb, nb, yb, nb, nb, nb, nb, nb, nb, nb, nb, nb, nb, nb, nb, nb, nb, nb] rfl rfl (take_ofW HT_.out HW_.out (by kernel_rfl)) (fun _ _ _ h => h) (Or.inl ⟨by rfl, ?_⟩) hHeld ?_ ?_; rotate_left; (focus rintro w' ⟨s0, s1, s2, s3⟩; go_simp; with_reducible rfl); rotate_left; (focus simp only [Act.put, sA, sB, sC, i64_w, i32_w]; rfl)
                                        refine one_ (i := 12) (N := some 103) #[yb, yb, yb, yb, yb, yb, yb, yb, yb, yb, yb, yb, yb, yb, yb, yb, yb, nb, yb, nb, nb, nb, nb, nb, nb, nb, nb, nb, nb, nb, nb, nb, nb, nb] rfl rfl (one_of HT_.out (by kernel_rfl)) (by decide) (fun K hK => ?_)
                                        refine goes_ Try.func11 (by kernel_rfl) rfl #[.pointer (some ⟨g166, 0, none⟩)] (by rfl) rfl rfl (by (try simp only [List.map_toArray, List.map_cons, List.map_nil]); first | done | rfl | (simp only [List.length_drop, List.length_take]; rfl)) ?_
                                        with_reducible refine (speed_Speed_Rate.calls g166 t189 t190 t195 t196 t197 w _ ?side1 ?side2 A67.out).mono ?_
                                        (case side1 => repeat (first | (with_reducible first | exact HI166.out | apply IsS48.alloc | apply IsS48.drewN | apply IsS48.drew | apply IsS48.set_0 | apply IsS48.set_1 | refine IsS48.far ?_ NB166_171.out _) | exact HI166.out))
                                        (case side2 => repeat (first | (with_reducible first | exact HB.out | apply below_alloc | apply pw_below_drewN | apply below_drew1 | refine below_set ?_ (IsS48.ge HI166.out) | refine below_set ?_ GE171.out) | exact HB.out))
                                        rintro e w73 ⟨rfl, hi, hb, hk⟩
                                        refine ⟨_, rfl, ?_⟩
                                        have n0_ := Aside0.mk (KeepBut.blk hk (g' := gb171) (o := .cells #[.int .i64 ((rd_T38 l2 x38_3).f0), .int .i64 ((rd_T38 l2 x38_3).f1), .int .i64 ((rd_T38 l2 x38_3).f2), .int .u64 ((rd_T38 l2 x38_3).f3)] 38 (0, 0)) (by (with_reducible repeat (first | refine blk_drewN ?_ _ | refine blk_drew ?_ | refine blk_alloc ?_ _)); exact BK171.out) NB171_166.out (by simp))
                                        have n1_ := Aside0.mk (hb)
                                        have n2_ := Aside0.mk (hi)
                                        clear BK171
                                        clear HB
                                        clear HI166
                                        have BK171 := n0_
                                        have HB := n1_
                                        have HI166 := n2_
                                        clear n0_ n1_ n2_
                                        (try clear hb)
                                        (try clear hb2)
                                        (try clear hk)
                                        (try clear hi)
                                        refine hK.out _ _ ⟨(blk_cell BK171.out 0).trans rfl, (blk_cell BK171.out 1).trans rfl, (blk_cell BK171.out 2).trans rfl, (blk_cell BK171.out 3).trans rfl⟩ (fun hHeld => ?_)
                                        clear hK K
                                        refine norm_ (a' := ?_) ?_ ?_; rotate_left; (focus show Act.put _ (some 103) _ = _; simp only [Act.put, sA, sB, sC, i64_w, i32_w]; rfl)
                                        refine one_ (i := 17) (N := some 108) #[yb, yb, yb, yb, yb, yb, yb, yb, yb, yb, yb, yb, yb, yb, yb, yb, yb, yb, yb, nb, nb, nb, nb, nb, nb, nb, nb, nb, nb, nb, nb, nb, nb, nb] rfl rfl (one_of HT_.out (by kernel_rfl)) (by decide) (fun K hK => ?_)
                                        refine goes_ Try.func12 (by kernel_rfl) rfl #[.int .u64 ((rd_T38 l2 x38_3).f3), .int .u64 ((rd_T38 l2 x38_3).f3)] (by rfl) rfl rfl (by (try simp only [List.map_toArray, List.map_cons, List.map_nil]); first | done | rfl | (simp only [List.length_drop, List.length_take]; rfl)) ?_
                                        with_reducible refine (fix_F_Add.calls ((rd_T38 l2 x38_3).f3) ((rd_T38 l2 x38_3).f3) t198 _ A68.out).mono ?_
                                        rintro e w' ⟨rfl, ⟨nd, rfl⟩⟩
                                        refine ⟨_, rfl, ?_⟩
                                        refine hK.out _ _ ⟨(blk_cell BK171.out 0).trans rfl, (blk_cell BK171.out 1).trans rfl, (blk_cell BK171.out 2).trans rfl, (blk_cell BK171.out 3).trans rfl⟩ (fun hHeld => ?_)
                                        clear hK K
                                        refine norm_ (a' := ?_) ?_ ?_; rotate_left; (focus show Act.put _ (some 108) _ = _; simp only [Act.put, sA, sB, sC, i64_w, i32_w]; rfl)
                                        refine pure_ (i := 19) (N := some 110) (v := ?_) (a' := ?_) #[yb, yb, yb, yb, yb, yb, yb, yb, yb, yb, yb, yb, yb, yb, yb, yb, yb, yb, yb, yb, nb, nb, nb, nb, nb, nb, nb, nb, nb, nb, nb, nb, nb, nb] rfl rfl (any_of HT_.out (by kernel_rfl)) (fun _ _ _ h => h) (Or.inl ⟨by rfl, ?_⟩) ?_ ?_; rotate_left; (focus intro w'; go_simp; with_reducible rfl); rotate_left; (focus simp only [Act.put, sA, sB, sC, i64_w, i32_w]; rfl)
                                        refine pure_ (i := 20) (N := some 111) (v := ?_) (a' := ?_) #[yb, yb, yb, yb, yb, yb, yb, yb, yb, yb, yb, yb, yb, yb, yb, yb, yb, yb, yb, yb, yb, nb, nb, nb, nb, nb, nb, nb, nb, nb, nb, nb, nb, nb] rfl rfl (any_of HT_.out (by kernel_rfl)) (fun _ _ _ h => h) (Or.inl ⟨by rfl, ?_⟩) ?_ ?_; rotate_left; (focus intro w'; go_simp; with_reducible rfl); rotate_left; (focus simp only [Act.put, sA, sB, sC, i64_w, i32_w]; rfl)
                                        refine pure_ (i := 21) (N := some 112) (v := ?_) (a' := ?_) #[yb, yb, yb, yb, yb, yb, yb, yb, yb, yb, yb, yb, yb, yb, yb, yb, yb, yb, yb, yb, yb, yb, nb, nb, nb, nb, nb, nb, nb, nb, nb, nb, nb, nb] rfl rfl (any_of HT_.out (by kernel_rfl)) (fun _ _ _ h => h) (Or.inl ⟨by rfl, ?_⟩) ?_ ?_; rotate_left; (focus intro w'; go_simp; with_reducible rfl); rotate_left; (focus simp only [Act.put, sA, sB, sC, i64_w, i32_w]; rfl)
                                        refine pure_ (i := 22) (N := some 113) (v := ?_) (a' := ?_) #[yb, yb, yb, yb, yb, yb, yb, yb, yb, yb, yb, yb, yb, yb, yb, yb, yb, yb, yb, yb, yb, yb, yb, nb, nb, nb, nb, nb, nb, nb, nb, nb, nb, nb] rfl rfl (any_of HT_.out (by kernel_rfl)) (fun _ _ _ h => h) (Or.inl ⟨by rfl, ?_⟩) ?_ ?_; rotate_left; (focus intro w'; go_simp; with_reducible rfl); rotate_left; (focus simp only [Act.put, sA, sB, sC, i64_w, i32_w]; rfl)
                                        refine pure_ (i := 23) (N := some 114) (v := ?_) (a' := ?_) #[yb, yb, yb, yb, yb, yb, yb, yb, yb, yb, yb, yb, yb, yb, yb, yb, yb, yb, yb, yb, yb, yb, yb, yb, nb, nb, nb, nb, nb, nb, nb, nb, nb, nb] rfl rfl (any_of HT_.out (by kernel_rfl)) (fun _ _ _ h => h) (Or.inl ⟨by rfl, ?_⟩) ?_ ?_; rotate_left; (focus intro w'; go_simp; with_reducible rfl); rotate_left; (focus simp only [Act.put, sA, sB, sC, i64_w, i32_w]; rfl)
                                        refine pure_ (i := 24) (N := some 115) (v := undef) (a' := ?_) #[yb, yb, yb, yb, yb, yb, yb, yb, yb, yb, yb, yb, yb, yb, yb, yb, yb, yb, yb, yb, yb, yb, yb, yb, yb, nb, nb, nb, nb, nb, nb, nb, nb, nb] rfl rfl (any_of HT_.out (by kernel_rfl)) (fun _ _ _ h => h) (Or.inr ⟨by rfl, rfl⟩) ?_ ?_; rotate_left; (focus simp only [Act.put, sA, sB, sC, i64_w, i32_w]; rfl)
                                        refine pure_ (i := 25) (N := some 116) (v := undef) (a' := ?_) #[yb, yb, yb, yb, yb, yb, yb, yb, yb, yb, yb, yb, yb, yb, yb, yb, yb, yb, yb, yb, yb, yb, yb, yb, yb, yb, nb, nb, nb, nb, nb, nb, nb, nb] rfl rfl (any_of HT_.out (by kernel_rfl)) (fun _ _ _ h => h) (Or.inr ⟨by rfl, rfl⟩) ?_ ?_; rotate_left; (focus simp only [Act.put, sA, sB, sC, i64_w, i32_w]; rfl)
                                        refine pure_ (i := 26) (N := some 117) (v := undef) (a' := ?_) #[yb, yb, yb, yb, yb, yb, yb, yb, yb, yb, yb, yb, yb, yb, yb, yb, yb, yb, yb, yb, yb, yb, yb, yb, yb, yb, yb, nb, nb, nb, nb, nb, nb, nb] rfl rfl (any_of HT_.out (by kernel_rfl)) (fun _ _ _ h => h) (Or.inr ⟨by rfl, rfl⟩) ?_ ?_; rotate_left; (focus simp only [Act.put, sA, sB, sC, i64_w, i32_w]; rfl)
                                        refine pure_ (i := 27) (N := some 118) (v := undef) (a' := ?_) #[yb, yb, yb, yb, yb, yb, yb, yb, yb, yb, yb, yb, yb, yb, yb, yb, yb, yb, yb, yb, yb, yb, yb, yb, yb, yb, yb, yb, nb, nb, nb, nb, nb, nb] rfl rfl (any_of HT_.out (by kernel_rfl)) (fun _ _ _ h => h) (Or.inr ⟨by rfl, rfl⟩) ?_ ?_; rotate_left; (focus simp only [Act.put, sA, sB, sC, i64_w, i32_w]; rfl)
                                        refine pure_ (i := 28) (N := some 119) (v := undef) (a' := ?_) #[yb, yb, yb, yb, yb, yb, yb, yb, yb, yb, yb, yb, yb, yb, yb, yb, yb, yb, yb, yb, yb, yb, yb, yb, yb, yb, yb, yb, yb, nb, nb, nb, nb, nb] rfl rfl (any_of HT_.out (by kernel_rfl)) (fun _ _ _ h => h) (Or.inr ⟨by rfl, rfl⟩) ?_ ?_; rotate_left; (focus simp only [Act.put, sA, sB, sC, i64_w, i32_w]; rfl)
                                        refine pure_ (i := 29) (N := some 120) (v := undef) (a' := ?_) #[yb, yb, yb, yb, yb, yb, yb, yb, yb, yb, yb, yb, yb, yb, yb, yb, yb, yb, yb, yb, yb, yb, yb, yb, yb, yb, yb, yb, yb, yb, nb, nb, nb, nb] rfl rfl (any_of HT_.out (by kernel_rfl)) (fun _ _ _ h => h) (Or.inr ⟨by rfl, rfl⟩) ?_ ?_; rotate_left; (focus simp only [Act.put, sA, sB, sC, i64_w, i32_w]; rfl)
                                        refine pure_ (i := 30) (N := some 121) (v := undef) (a' := ?_) #[yb, yb, yb, yb, yb, yb, yb, yb, yb, yb, yb, yb, yb, yb, yb, yb, yb, yb, yb, yb, yb, yb, yb, yb, yb, yb, yb, yb, yb, yb, yb, nb, nb, nb] rfl rfl (any_of HT_.out (by kernel_rfl)) (fun _ _ _ h => h) (Or.inr ⟨by rfl, rfl⟩) ?_ ?_; rotate_left; (focus simp only [Act.put, sA, sB, sC, i64_w, i32_w]; rfl)
                                        refine pure_ (i := 31) (N := some 122) (v := undef) (a' := ?_) #[yb, yb, yb, yb, yb, yb, yb, yb, yb, yb, yb, yb, yb, yb, yb, yb, yb, yb, yb, yb, yb, yb, yb, yb, yb, yb, yb, yb, yb, yb, yb, yb, nb, nb] rfl rfl (any_of HT_.out (by kernel_rfl)) (fun _ _ _ h => h) (Or.inr ⟨by rfl, rfl⟩) ?_ ?_; rotate_left; (focus simp only [Act.put, sA, sB, sC, i64_w, i32_w]; rfl)
                                        refine pure_ (i := 32) (N := some 123) (v := undef) (a' := ?_) #[yb, yb, yb, yb, yb, yb, yb, yb, yb, yb, yb, yb, yb, yb, yb, yb, yb, yb, yb, yb, yb, yb, yb, yb, yb, yb, yb, yb, yb, yb, yb, yb, yb, nb] rfl rfl (any_of HT_.out (by kernel_rfl)) (fun _ _ _ h => h) (Or.inr ⟨by rfl, rfl⟩) ?_ ?_; rotate_left; (focus simp only [Act.put, sA, sB, sC, i64_w, i32_w]; rfl)
                                        refine pure_ (i := 33) (N := some 124) (v := ?_) (a' := ?_) #[yb, yb, yb, yb, yb, yb, yb, yb, yb, yb, yb, yb, yb, yb, yb, yb, yb, yb, yb, yb, yb, yb, yb, yb, yb, yb, yb, yb, yb, yb, yb, yb, yb, yb] rfl rfl (any_of HT_.out (by kernel_rfl)) (fun _ _ _ h => h) (Or.inl ⟨by rfl, ?_⟩) ?_ ?_; rotate_left; (focus intro w'; go_simp; with_reducible rfl); rotate_left; (focus simp only [Act.put, sA, sB, sC, i64_w, i32_w]; rfl)
                                        refine done_ (done_of HT_.out (by kernel_rfl)) ?_
                                        try go_wp2
                                        go_meet
                                        case rel => exact ⟨_, (true), (t196), (t197), (by first | rfl | (simp; done) | (simp [*]; done)), H', ⟨by have := HJ8.out; have := HJ14.out; have := HK3.out; first | omega | exact Nat.le_refl _⟩, ⟨by (with_reducible repeat (first | refine blk_drewN ?_ _ | refine blk_drew ?_ | refine blk_alloc ?_ _)); exact BK171.out⟩, ⟨by repeat (first | (with_reducible first | exact HI166.out | apply IsS48.alloc | apply IsS48.drewN | apply IsS48.drew | apply IsS48.set_0 | apply IsS48.set_1 | refine IsS48.far ?_ NB166_171.out _) | exact HI166.out)⟩, ⟨by repeat (first | (with_reducible first | exact HB.out | apply below_alloc | apply pw_below_drewN | apply below_drew1 | refine below_set ?_ (IsS48.ge HI166.out) | refine below_set ?_ GE171.out) | exact HB.out)⟩⟩
                                      · rw [if_neg c70] at H
                                        have c70b0 : decide ((ji69) < t195) = false := decide_eq_false c70
                                        clear c70
                                        have H' := Aside0.mk H
                                        clear H
                                        try go_wp2
                                        have n0_ := Aside0.mk (blk_drew BK171.out)
                                        have n1_ := Aside0.mk (IsS48.drew HI166.out)
                                        have n2_ := Aside0.mk (below_drew1 HB.out)
                                        clear BK171
                                        clear HI166
                                        clear HB
                                        have BK171 := n0_
                                        have HI166 := n1_
                                        have HB := n2_
                                        clear n0_ n1_ n2_
                                        refine start_ (n := 34) (S := fun w' => w'.cell? ⟨gb171, 0, none⟩ = some (.int .i64 ((rd_T38 l2 x38_3).f0)) ∧ w'.cell? ⟨gb171, 1, none⟩ = some (.int .i64 ((rd_T38 l2 x38_3).f1)) ∧ w'.cell? ⟨gb171, 2, none⟩ = some (.int .i64 ((rd_T38 l2 x38_3).f2)) ∧ w'.cell? ⟨gb171, 3, none⟩ = some (.int .u64 ((rd_T38 l2 x38_3).f3))) (ds := []) #[nb, nb, nb, nb, nb, nb, nb, nb, nb, nb, nb, nb, nb, nb, nb, nb, nb, nb, nb, nb, nb, nb, nb, nb, nb, nb, nb, nb, nb, nb, nb, nb, nb, nb] (by kernel_rfl) rfl rfl ⟨(blk_cell BK171.out 0).trans rfl, (blk_cell BK171.out 1).trans rfl, (blk_cell BK171.out 2).trans rfl, (blk_cell BK171.out 3).trans rfl⟩ (fun hHeld => ?_); refine with_tabW terracelaw19_SpeedBounds.tab18 terracelaw19_SpeedBounds.bits18 (fun HT_ HW_ => ?_)
                                        generalize w56.drew = w74 at BK171 HI166 HB hHeld ⊢
                                        refine pure_ (i := 0) (N := some 91) (v := ?_) (a' := ?_) #[yb, nb, nb, nb, nb, nb, nb, nb, nb, nb, nb, nb, nb, nb, nb, nb, nb, nb, nb, nb, nb, nb, nb, nb, nb, nb, nb, nb, nb, nb, nb, nb, nb, nb] rfl rfl (any_of HT_.out (by kernel_rfl)) (fun _ _ _ h => h) (Or.inl ⟨by rfl, ?_⟩) ?_ ?_; rotate_left; (focus intro w'; go_simp; with_reducible rfl); rotate_left; (focus simp only [Act.put, sA, sB, sC, i64_w, i32_w]; rfl)
                                        refine pure_ (i := 2) (N := some 93) (v := ?_) (a' := ?_) #[yb, nb, yb, nb, nb, nb, nb, nb, nb, nb, nb, nb, nb, nb, nb, nb, nb, nb, nb, nb, nb, nb, nb, nb, nb, nb, nb, nb, nb, nb, nb, nb, nb, nb] rfl rfl (any_of HT_.out (by kernel_rfl)) (fun _ _ _ h => h) (Or.inl ⟨by rfl, ?_⟩) ?_ ?_; rotate_left; (focus intro w'; go_simp; with_reducible rfl); rotate_left; (focus simp only [Act.put, sA, sB, sC, i64_w, i32_w]; rfl)
                                        refine pure_ (i := 3) (N := some 94) (v := ?_) (a' := ?_) #[yb, nb, yb, yb, nb, nb, nb, nb, nb, nb, nb, nb, nb, nb, nb, nb, nb, nb, nb, nb, nb, nb, nb, nb, nb, nb, nb, nb, nb, nb, nb, nb, nb, nb] rfl rfl (any_of HT_.out (by kernel_rfl)) (fun _ _ _ h => h) (Or.inl ⟨by rfl, ?_⟩) ?_ ?_; rotate_left; (focus intro w'; go_simp; with_reducible rfl); rotate_left; (focus simp only [Act.put, sA, sB, sC, i64_w, i32_w]; rfl)
                                        refine one_ (i := 1) (N := some 92) #[yb, yb, yb, yb, nb, nb, nb, nb, nb, nb, nb, nb, nb, nb, nb, nb, nb, nb, nb, nb, nb, nb, nb, nb, nb, nb, nb, nb, nb, nb, nb, nb, nb, nb] rfl rfl (one_of HT_.out (by kernel_rfl)) (by decide) (fun K hK => ?_)
                                        refine goes_ Try.func11 (by kernel_rfl) rfl #[.pointer (some ⟨g166, 0, none⟩)] (by rfl) rfl rfl (by (try simp only [List.map_toArray, List.map_cons, List.map_nil]); first | done | rfl | (simp only [List.length_drop, List.length_take]; rfl)) ?_
                                        with_reducible refine (speed_Speed_Rate.calls g166 t186 t187 t188 t189 t190 w _ ?side1 ?side2 A57.out).mono ?_
                                        (case side1 => repeat (first | (with_reducible first | exact HI166.out | apply IsS48.alloc | apply IsS48.drewN | apply IsS48.drew | apply IsS48.set_0 | apply IsS48.set_1 | refine IsS48.far ?_ NB166_171.out _) | exact HI166.out))
                                        (case side2 => repeat (first | (with_reducible first | exact HB.out | apply below_alloc | apply pw_below_drewN | apply below_drew1 | refine below_set ?_ (IsS48.ge HI166.out) | refine below_set ?_ GE171.out) | exact HB.out))
                                        rintro e w75 ⟨rfl, hi, hb, hk⟩
                                        refine ⟨_, rfl, ?_⟩
                                        have n0_ := Aside0.mk (KeepBut.blk hk (g' := gb171) (o := .cells #[.int .i64 ((rd_T38 l2 x38_3).f0), .int .i64 ((rd_T38 l2 x38_3).f1), .int .i64 ((rd_T38 l2 x38_3).f2), .int .u64 ((rd_T38 l2 x38_3).f3)] 38 (0, 0)) (by (with_reducible repeat (first | refine blk_drewN ?_ _ | refine blk_drew ?_ | refine blk_alloc ?_ _)); exact BK171.out) NB171_166.out (by simp))
                                        have n1_ := Aside0.mk (hb)
                                        have n2_ := Aside0.mk (hi)
                                        clear BK171
                                        clear HB
                                        clear HI166
                                        have BK171 := n0_
                                        have HB := n1_
                                        have HI166 := n2_
                                        clear n0_ n1_ n2_
                                        (try clear hb)
                                        (try clear hb2)
                                        (try clear hk)
                                        (try clear hi)
                                        refine hK.out _ _ ⟨(blk_cell BK171.out 0).trans rfl, (blk_cell BK171.out 1).trans rfl, (blk_cell BK171.out 2).trans rfl, (blk_cell BK171.out 3).trans rfl⟩ (fun hHeld => ?_)
                                        clear hK K
                                        refine norm_ (a' := ?_) ?_ ?_; rotate_left; (focus show Act.put _ (some 92) _ = _; simp only [Act.put, sA, sB, sC, i64_w, i32_w]; rfl)
                                        refine one_ (i := 4) (N := some 95) #[yb, yb, yb, yb, yb, nb, nb, nb, nb, nb, nb, nb, nb, nb, nb, nb, nb, nb, nb, nb, nb, nb, nb, nb, nb, nb, nb, nb, nb, nb, nb, nb, nb, nb] rfl rfl (one_of HT_.out (by kernel_rfl)) (by decide) (fun K hK => ?_)
                                        refine goes_ Try.func12 (by kernel_rfl) rfl #[.int .u64 t172, .int .u64 t172] (by rfl) rfl rfl (by (try simp only [List.map_toArray, List.map_cons, List.map_nil]); first | done | rfl | (simp only [List.length_drop, List.length_take]; rfl)) ?_
                                        with_reducible refine (fix_F_Add.calls t172 t172 t191 _ A58.out).mono ?_
                                        rintro e w' ⟨rfl, ⟨nd, rfl⟩⟩
                                        refine ⟨_, rfl, ?_⟩
                                        refine hK.out _ _ ⟨(blk_cell BK171.out 0).trans rfl, (blk_cell BK171.out 1).trans rfl, (blk_cell BK171.out 2).trans rfl, (blk_cell BK171.out 3).trans rfl⟩ (fun hHeld => ?_)
                                        clear hK K
                                        refine norm_ (a' := ?_) ?_ ?_; rotate_left; (focus show Act.put _ (some 95) _ = _; simp only [Act.put, sA, sB, sC, i64_w, i32_w]; rfl)
                                        refine pure_ (i := 5) (N := some 96) (v := ?_) (a' := ?_) #[yb, yb, yb, yb, yb, yb, nb, nb, nb, nb, nb, nb, nb, nb, nb, nb, nb, nb, nb, nb, nb, nb, nb, nb, nb, nb, nb, nb, nb, nb, nb, nb, nb, nb] rfl rfl (any_of HT_.out (by kernel_rfl)) (fun _ _ _ h => h) (Or.inl ⟨by rfl, ?_⟩) ?_ ?_; rotate_left; (focus intro w'; go_simp; with_reducible rfl); rotate_left; (focus simp only [Act.put, sA, sB, sC, i64_w, i32_w]; rfl)
                                        refine pure_ (i := 6) (N := some 97) (v := ?_) (a' := ?_) #[yb, yb, yb, yb, yb, yb, yb, nb, nb, nb, nb, nb, nb, nb, nb, nb, nb, nb, nb, nb, nb, nb, nb, nb, nb, nb, nb, nb, nb, nb, nb, nb, nb, nb] rfl rfl (any_of HT_.out (by kernel_rfl)) (fun _ _ _ h => h) (Or.inl ⟨by rfl, ?_⟩) ?_ ?_; rotate_left; (focus intro w'; go_simp; with_reducible rfl); rotate_left; (focus simp only [Act.put, sA, sB, sC, i64_w, i32_w]; rfl)
                                        refine pure_ (i := 7) (N := some 98) (v := ?_) (a' := ?_) #[yb, yb, yb, yb, yb, yb, yb, yb, nb, nb, nb, nb, nb, nb, nb, nb, nb, nb, nb, nb, nb, nb, nb, nb, nb, nb, nb, nb, nb, nb, nb, nb, nb, nb] rfl rfl (any_of HT_.out (by kernel_rfl)) (fun _ _ _ h => h) (Or.inl ⟨by rfl, ?_⟩) ?_ ?_; rotate_left; (focus intro w'; go_simp; with_reducible rfl); rotate_left; (focus simp only [Act.put, sA, sB, sC, i64_w, i32_w]; rfl)
                                        refine take_ (i := 8) (N := some 99) (v := ?_) (a' := ?_) #[yb, yb, yb, yb, yb, yb, yb, yb, yb, nb, nb, nb, nb, nb, nb, nb, nb, nb, nb, nb, nb, nb, nb, nb, nb, nb, nb, nb, nb, nb, nb, nb, nb, nb] rfl rfl (take_ofW HT_.out HW_.out (by kernel_rfl)) (fun _ _ _ h => h) (Or.inl ⟨by rfl, ?_⟩) hHeld ?_ ?_; rotate_left; (focus rintro w' ⟨s0, s1, s2, s3⟩; go_simp; with_reducible rfl); rotate_left; (focus simp only [Act.put, sA, sB, sC, i64_w, i32_w]; rfl)
                                        refine pure_ (i := 9) (N := some 100) (v := ?_) (a' := ?_) #[yb, yb, yb, yb, yb, yb, yb, yb, yb, yb, nb, nb, nb, nb, nb, nb, nb, nb, nb, nb, nb, nb, nb, nb, nb, nb, nb, nb, nb, nb, nb, nb, nb, nb] rfl rfl (any_of HT_.out (by kernel_rfl)) (fun _ _ _ h => h) (Or.inl ⟨by rfl, ?_⟩) ?_ ?_; rotate_left; (focus intro w'; go_simp; with_reducible rfl); rotate_left; (focus simp only [Act.put, sA, sB, sC, i64_w, i32_w]; rfl)
                                        refine pure_ (i := 10) (N := some 101) (v := ?_) (a' := ?_) #[yb, yb, yb, yb, yb, yb, yb, yb, yb, yb, yb, nb, nb, nb, nb, nb, nb, nb, nb, nb, nb, nb, nb, nb, nb, nb, nb, nb, nb, nb, nb, nb, nb, nb] rfl rfl (any_of HT_.out (by kernel_rfl)) (fun _ _ _ h => h) (Or.inl ⟨by rfl, ?_⟩) ?_ ?_; rotate_left; (focus intro w'; go_simp; with_reducible rfl); rotate_left; (focus simp only [Act.put, sA, sB, sC, i64_w, i32_w]; rfl)
                                        refine pure_ (i := 11) (N := some 102) (v := ?_) (a' := ?_) #[yb, yb, yb, yb, yb, yb, yb, yb, yb, yb, yb, yb, nb, nb, nb, nb, nb, nb, nb, nb, nb, nb, nb, nb, nb, nb, nb, nb, nb, nb, nb, nb, nb, nb] rfl rfl (any_of HT_.out (by kernel_rfl)) (fun _ _ _ h => h) (Or.inl ⟨by rfl, ?_⟩) ?_ ?_; rotate_left; (focus intro w'; go_simp; with_reducible rfl); rotate_left; (focus simp only [Act.put, sA, sB, sC, i64_w, i32_w]; rfl)
                                        refine pure_ (i := 13) (N := some 104) (v := ?_) (a' := ?_) #[yb, yb, yb, yb, yb, yb, yb, yb, yb, yb, yb, yb, nb, yb, nb, nb, nb, nb, nb, nb, nb, nb, nb, nb, nb, nb, nb, nb, nb, nb, nb, nb, nb, nb] rfl rfl (any_of HT_.out (by kernel_rfl)) (fun _ _ _ h => h) (Or.inl ⟨by rfl, ?_⟩) ?_ ?_; rotate_left; (focus intro w'; go_simp; with_reducible rfl); rotate_left; (focus simp only [Act.put, sA, sB, sC, i64_w, i32_w]; rfl)
                                        refine pure_ (i := 15) (N := some 106) (v := ?_) (a' := ?_) #[yb, yb, yb, yb, yb, yb, yb, yb, yb, yb, yb, yb, nb, yb, nb, yb, nb, nb, nb, nb, nb, nb, nb, nb, nb, nb, nb, nb, nb, nb, nb, nb, nb, nb] rfl rfl (any_of HT_.out (by kernel_rfl)) (fun _ _ _ h => h) (Or.inl ⟨by rfl, ?_⟩) ?_ ?_; rotate_left; (focus intro w'; go_simp; with_reducible rfl); rotate_left; (focus simp only [Act.put, sA, sB, sC, i64_w, i32_w]; rfl)
                                        refine pure_ (i := 18) (N := some 109) (v := ?_) (a' := ?_) #[yb, yb, yb, yb, yb, yb, yb, yb, yb, yb, yb, yb, nb, yb, nb, yb, nb, nb, yb, nb, nb, nb, nb, nb, nb, nb, nb, nb, nb, nb, nb, nb, nb, nb] rfl rfl (any_of HT_.out (by kernel_rfl)) (fun _ _ _ h => h) (Or.inl ⟨by rfl, ?_⟩) ?_ ?_; rotate_left; (focus intro w'; go_simp; with_reducible rfl); rotate_left; (focus simp only [Act.put, sA, sB, sC, i64_w, i32_w]; rfl)
                                        refine take_ (i := 14) (N := some 105) (v := ?_) (a' := ?_) #[yb, yb, yb, yb, yb, yb, yb, yb, yb, yb, yb, yb, nb, yb, yb, yb, nb, nb, yb, nb, nb, nb, nb, nb, nb, nb, nb, nb, nb, nb, nb, nb, nb, nb] rfl rfl (take_ofW HT_.out HW_.out (by kernel_rfl)) (fun _ _ _ h => h) (Or.inl ⟨by rfl, ?_⟩) hHeld ?_ ?_; rotate_left; (focus rintro w' ⟨s0, s1, s2, s3⟩; go_simp; with_reducible rfl); rotate_left; (focus simp only [Act.put, sA, sB, sC, i64_w, i32_w]; rfl)
                                        refine take_ (i := 16) (N := some 107) (v := ?_) (a' := ?_) #[yb, yb, yb, yb, yb, yb, yb, yb, yb, yb, yb, yb, nb, yb, yb, yb, yb, nb, yb, nb, nb, nb, nb, nb, nb, nb, nb, nb, nb, nb, nb, nb, nb, nb] rfl rfl (take_ofW HT_.out HW_.out (by kernel_rfl)) (fun _ _ _ h => h) (Or.inl ⟨by rfl, ?_⟩) hHeld ?_ ?_; rotate_left; (focus rintro w' ⟨s0, s1, s2, s3⟩; go_simp; with_reducible rfl); rotate_left; (focus simp only [Act.put, sA, sB, sC, i64_w, i32_w]; rfl)
                                        refine one_ (i := 12) (N := some 103) #[yb, yb, yb, yb, yb, yb, yb, yb, yb, yb, yb, yb, yb, yb, yb, yb, yb, nb, yb, nb, nb, nb, nb, nb, nb, nb, nb, nb, nb, nb, nb, nb, nb, nb] rfl rfl (one_of HT_.out (by kernel_rfl)) (by decide) (fun K hK => ?_)
                                        refine goes_ Try.func11 (by kernel_rfl) rfl #[.pointer (some ⟨g166, 0, none⟩)] (by rfl) rfl rfl (by (try simp only [List.map_toArray, List.map_cons, List.map_nil]); first | done | rfl | (simp only [List.length_drop, List.length_take]; rfl)) ?_
                                        with_reducible refine (speed_Speed_Rate.calls g166 t189 t190 t195 t196 t197 w _ ?side1 ?side2 A67.out).mono ?_
                                        (case side1 => repeat (first | (with_reducible first | exact HI166.out | apply IsS48.alloc | apply IsS48.drewN | apply IsS48.drew | apply IsS48.set_0 | apply IsS48.set_1 | refine IsS48.far ?_ NB166_171.out _) | exact HI166.out))
                                        (case side2 => repeat (first | (with_reducible first | exact HB.out | apply below_alloc | apply pw_below_drewN | apply below_drew1 | refine below_set ?_ (IsS48.ge HI166.out) | refine below_set ?_ GE171.out) | exact HB.out))
                                        rintro e w76 ⟨rfl, hi, hb, hk⟩
                                        refine ⟨_, rfl, ?_⟩
                                        have n0_ := Aside0.mk (KeepBut.blk hk (g' := gb171) (o := .cells #[.int .i64 ((rd_T38 l2 x38_3).f0), .int .i64 ((rd_T38 l2 x38_3).f1), .int .i64 ((rd_T38 l2 x38_3).f2), .int .u64 ((rd_T38 l2 x38_3).f3)] 38 (0, 0)) (by (with_reducible repeat (first | refine blk_drewN ?_ _ | refine blk_drew ?_ | refine blk_alloc ?_ _)); exact BK171.out) NB171_166.out (by simp))
                                        have n1_ := Aside0.mk (hb)
                                        have n2_ := Aside0.mk (hi)
                                        clear BK171
                                        clear HB
                                        clear HI166
                                        have BK171 := n0_
                                        have HB := n1_
                                        have HI166 := n2_
                                        clear n0_ n1_ n2_
                                        (try clear hb)
                                        (try clear hb2)
                                        (try clear hk)
                                        (try clear hi)
                                        refine hK.out _ _ ⟨(blk_cell BK171.out 0).trans rfl, (blk_cell BK171.out 1).trans rfl, (blk_cell BK171.out 2).trans rfl, (blk_cell BK171.out 3).trans rfl⟩ (fun hHeld => ?_)
                                        clear hK K
                                        refine norm_ (a' := ?_) ?_ ?_; rotate_left; (focus show Act.put _ (some 103) _ = _; simp only [Act.put, sA, sB, sC, i64_w, i32_w]; rfl)
                                        refine one_ (i := 17) (N := some 108) #[yb, yb, yb, yb, yb, yb, yb, yb, yb, yb, yb, yb, yb, yb, yb, yb, yb, yb, yb, nb, nb, nb, nb, nb, nb, nb, nb, nb, nb, nb, nb, nb, nb, nb] rfl rfl (one_of HT_.out (by kernel_rfl)) (by decide) (fun K hK => ?_)
                                        refine goes_ Try.func12 (by kernel_rfl) rfl #[.int .u64 ((rd_T38 l2 x38_3).f3), .int .u64 ((rd_T38 l2 x38_3).f3)] (by rfl) rfl rfl (by (try simp only [List.map_toArray, List.map_cons, List.map_nil]); first | done | rfl | (simp only [List.length_drop, List.length_take]; rfl)) ?_
                                        with_reducible refine (fix_F_Add.calls ((rd_T38 l2 x38_3).f3) ((rd_T38 l2 x38_3).f3) t198 _ A68.out).mono ?_
                                        rintro e w' ⟨rfl, ⟨nd, rfl⟩⟩
                                        refine ⟨_, rfl, ?_⟩
                                        refine hK.out _ _ ⟨(blk_cell BK171.out 0).trans rfl, (blk_cell BK171.out 1).trans rfl, (blk_cell BK171.out 2).trans rfl, (blk_cell BK171.out 3).trans rfl⟩ (fun hHeld => ?_)
                                        clear hK K
                                        refine norm_ (a' := ?_) ?_ ?_; rotate_left; (focus show Act.put _ (some 108) _ = _; simp only [Act.put, sA, sB, sC, i64_w, i32_w]; rfl)
                                        refine pure_ (i := 19) (N := some 110) (v := ?_) (a' := ?_) #[yb, yb, yb, yb, yb, yb, yb, yb, yb, yb, yb, yb, yb, yb, yb, yb, yb, yb, yb, yb, nb, nb, nb, nb, nb, nb, nb, nb, nb, nb, nb, nb, nb, nb] rfl rfl (any_of HT_.out (by kernel_rfl)) (fun _ _ _ h => h) (Or.inl ⟨by rfl, ?_⟩) ?_ ?_; rotate_left; (focus intro w'; go_simp; with_reducible rfl); rotate_left; (focus simp only [Act.put, sA, sB, sC, i64_w, i32_w]; rfl)
                                        refine pure_ (i := 20) (N := some 111) (v := ?_) (a' := ?_) #[yb, yb, yb, yb, yb, yb, yb, yb, yb, yb, yb, yb, yb, yb, yb, yb, yb, yb, yb, yb, yb, nb, nb, nb, nb, nb, nb, nb, nb, nb, nb, nb, nb, nb] rfl rfl (any_of HT_.out (by kernel_rfl)) (fun _ _ _ h => h) (Or.inl ⟨by rfl, ?_⟩) ?_ ?_; rotate_left; (focus intro w'; go_simp; with_reducible rfl); rotate_left; (focus simp only [Act.put, sA, sB, sC, i64_w, i32_w]; rfl)
                                        refine pure_ (i := 21) (N := some 112) (v := ?_) (a' := ?_) #[yb, yb, yb, yb, yb, yb, yb, yb, yb, yb, yb, yb, yb, yb, yb, yb, yb, yb, yb, yb, yb, yb, nb, nb, nb, nb, nb, nb, nb, nb, nb, nb, nb, nb] rfl rfl (any_of HT_.out (by kernel_rfl)) (fun _ _ _ h => h) (Or.inl ⟨by rfl, ?_⟩) ?_ ?_; rotate_left; (focus intro w'; go_simp; with_reducible rfl); rotate_left; (focus simp only [Act.put, sA, sB, sC, i64_w, i32_w]; rfl)
                                        refine pure_ (i := 22) (N := some 113) (v := ?_) (a' := ?_) #[yb, yb, yb, yb, yb, yb, yb, yb, yb, yb, yb, yb, yb, yb, yb, yb, yb, yb, yb, yb, yb, yb, yb, nb, nb, nb, nb, nb, nb, nb, nb, nb, nb, nb] rfl rfl (any_of HT_.out (by kernel_rfl)) (fun _ _ _ h => h) (Or.inl ⟨by rfl, ?_⟩) ?_ ?_; rotate_left; (focus intro w'; go_simp; with_reducible rfl); rotate_left; (focus simp only [Act.put, sA, sB, sC, i64_w, i32_w]; rfl)
                                        refine pure_ (i := 23) (N := some 114) (v := ?_) (a' := ?_) #[yb, yb, yb, yb, yb, yb, yb, yb, yb, yb, yb, yb, yb, yb, yb, yb, yb, yb, yb, yb, yb, yb, yb, yb, nb, nb, nb, nb, nb, nb, nb, nb, nb, nb] rfl rfl (any_of HT_.out (by kernel_rfl)) (fun _ _ _ h => h) (Or.inl ⟨by rfl, ?_⟩) ?_ ?_; rotate_left; (focus intro w'; go_simp; with_reducible rfl); rotate_left; (focus simp only [Act.put, sA, sB, sC, i64_w, i32_w]; rfl)
                                        refine pure_ (i := 24) (N := some 115) (v := ?_) (a' := ?_) #[yb, yb, yb, yb, yb, yb, yb, yb, yb, yb, yb, yb, yb, yb, yb, yb, yb, yb, yb, yb, yb, yb, yb, yb, yb, nb, nb, nb, nb, nb, nb, nb, nb, nb] rfl rfl (any_of HT_.out (by kernel_rfl)) (fun _ _ _ h => h) (Or.inl ⟨by rfl, ?_⟩) ?_ ?_; rotate_left; (focus intro w'; go_simp; with_reducible rfl); rotate_left; (focus simp only [Act.put, sA, sB, sC, i64_w, i32_w]; rfl)
                                        refine take_ (i := 25) (N := some 116) (v := ?_) (a' := ?_) #[yb, yb, yb, yb, yb, yb, yb, yb, yb, yb, yb, yb, yb, yb, yb, yb, yb, yb, yb, yb, yb, yb, yb, yb, yb, yb, nb, nb, nb, nb, nb, nb, nb, nb] rfl rfl (take_ofW HT_.out HW_.out (by kernel_rfl)) (fun _ _ _ h => h) (Or.inl ⟨by rfl, ?_⟩) hHeld ?_ ?_; rotate_left; (focus rintro w' ⟨s0, s1, s2, s3⟩; go_simp; with_reducible rfl); rotate_left; (focus simp only [Act.put, sA, sB, sC, i64_w, i32_w]; rfl)
                                        refine pure_ (i := 26) (N := some 117) (v := ?_) (a' := ?_) #[yb, yb, yb, yb, yb, yb, yb, yb, yb, yb, yb, yb, yb, yb, yb, yb, yb, yb, yb, yb, yb, yb, yb, yb, yb, yb, yb, nb, nb, nb, nb, nb, nb, nb] rfl rfl (any_of HT_.out (by kernel_rfl)) (fun _ _ _ h => h) (Or.inl ⟨by rfl, ?_⟩) ?_ ?_; rotate_left; (focus intro w'; go_simp; with_reducible rfl); rotate_left; (focus simp only [Act.put, sA, sB, sC, i64_w, i32_w]; rfl)
                                        refine pure_ (i := 27) (N := some 118) (v := ?_) (a' := ?_) #[yb, yb, yb, yb, yb, yb, yb, yb, yb, yb, yb, yb, yb, yb, yb, yb, yb, yb, yb, yb, yb, yb, yb, yb, yb, yb, yb, yb, nb, nb, nb, nb, nb, nb] rfl rfl (any_of HT_.out (by kernel_rfl)) (fun _ _ _ h => h) (Or.inl ⟨by rfl, ?_⟩) ?_ ?_; rotate_left; (focus intro w'; go_simp; with_reducible rfl); rotate_left; (focus simp only [Act.put, sA, sB, sC, i64_w, i32_w]; rfl)
                                        refine pure_ (i := 28) (N := some 119) (v := undef) (a' := ?_) #[yb, yb, yb, yb, yb, yb, yb, yb, yb, yb, yb, yb, yb, yb, yb, yb, yb, yb, yb, yb, yb, yb, yb, yb, yb, yb, yb, yb, yb, nb, nb, nb, nb, nb] rfl rfl (any_of HT_.out (by kernel_rfl)) (fun _ _ _ h => h) (Or.inr ⟨by rfl, rfl⟩) ?_ ?_; rotate_left; (focus simp only [Act.put, sA, sB, sC, i64_w, i32_w]; rfl)
                                        refine pure_ (i := 29) (N := some 120) (v := undef) (a' := ?_) #[yb, yb, yb, yb, yb, yb, yb, yb, yb, yb, yb, yb, yb, yb, yb, yb, yb, yb, yb, yb, yb, yb, yb, yb, yb, yb, yb, yb, yb, yb, nb, nb, nb, nb] rfl rfl (any_of HT_.out (by kernel_rfl)) (fun _ _ _ h => h) (Or.inr ⟨by rfl, rfl⟩) ?_ ?_; rotate_left; (focus simp only [Act.put, sA, sB, sC, i64_w, i32_w]; rfl)
                                        refine pure_ (i := 30) (N := some 121) (v := undef) (a' := ?_) #[yb, yb, yb, yb, yb, yb, yb, yb, yb, yb, yb, yb, yb, yb, yb, yb, yb, yb, yb, yb, yb, yb, yb, yb, yb, yb, yb, yb, yb, yb, yb, nb, nb, nb] rfl rfl (any_of HT_.out (by kernel_rfl)) (fun _ _ _ h => h) (Or.inr ⟨by rfl, rfl⟩) ?_ ?_; rotate_left; (focus simp only [Act.put, sA, sB, sC, i64_w, i32_w]; rfl)
                                        refine pure_ (i := 31) (N := some 122) (v := undef) (a' := ?_) #[yb, yb, yb, yb, yb, yb, yb, yb, yb, yb, yb, yb, yb, yb, yb, yb, yb, yb, yb, yb, yb, yb, yb, yb, yb, yb, yb, yb, yb, yb, yb, yb, nb, nb] rfl rfl (any_of HT_.out (by kernel_rfl)) (fun _ _ _ h => h) (Or.inr ⟨by rfl, rfl⟩) ?_ ?_; rotate_left; (focus simp only [Act.put, sA, sB, sC, i64_w, i32_w]; rfl)
                                        refine pure_ (i := 32) (N := some 123) (v := ?_) (a' := ?_) #[yb, yb, yb, yb, yb, yb, yb, yb, yb, yb, yb, yb, yb, yb, yb, yb, yb, yb, yb, yb, yb, yb, yb, yb, yb, yb, yb, yb, yb, yb, yb, yb, yb, nb] rfl rfl (any_of HT_.out (by kernel_rfl)) (fun _ _ _ h => h) (Or.inl ⟨by rfl, ?_⟩) ?_ ?_; rotate_left; (focus intro w'; go_simp; with_reducible rfl); rotate_left; (focus simp only [Act.put, sA, sB, sC, i64_w, i32_w]; rfl)
                                        refine pure_ (i := 33) (N := some 124) (v := ?_) (a' := ?_) #[yb, yb, yb, yb, yb, yb, yb, yb, yb, yb, yb, yb, yb, yb, yb, yb, yb, yb, yb, yb, yb, yb, yb, yb, yb, yb, yb, yb, yb, yb, yb, yb, yb, yb] rfl rfl (any_of HT_.out (by kernel_rfl)) (fun _ _ _ h => h) (Or.inl ⟨by rfl, ?_⟩) ?_ ?_; rotate_left; (focus intro w'; go_simp; with_reducible rfl); rotate_left; (focus simp only [Act.put, sA, sB, sC, i64_w, i32_w]; rfl)
                                        refine done_ (done_of HT_.out (by kernel_rfl)) ?_
                                        try go_wp2
                                        go_meet
                                        case rel => exact ⟨_, (false), (t196), (t197), (by first | rfl | (simp; done) | (simp [*]; done)), H', ⟨by have := HJ8.out; have := HJ14.out; have := HK3.out; first | omega | exact Nat.le_refl _⟩, ⟨by (with_reducible repeat (first | refine blk_drewN ?_ _ | refine blk_drew ?_ | refine blk_alloc ?_ _)); exact BK171.out⟩, ⟨by repeat (first | (with_reducible first | exact HI166.out | apply IsS48.alloc | apply IsS48.drewN | apply IsS48.drew | apply IsS48.set_0 | apply IsS48.set_1 | refine IsS48.far ?_ NB166_171.out _) | exact HI166.out)⟩, ⟨by repeat (first | (with_reducible first | exact HB.out | apply below_alloc | apply pw_below_drewN | apply below_drew1 | refine below_set ?_ (IsS48.ge HI166.out) | refine below_set ?_ GE171.out) | exact HB.out)⟩⟩
                                case rest =>
                                  clear HC50
                                  try clear c1
                                  try clear p2
                                  try clear c7
                                  try clear c11
                                  try clear c12
                                  try clear c70
                                  try clear c70b0
                                  obtain ⟨kq, x124_49, x167000_49, x167001_49, rfl, HA, HJ49, BK171, HI166, HB⟩ := hcut
                                  cases kq with
                                  | zero => exact absurd HA.out (by simp [terracelaw19_SpeedBounds.j4])
                                  | succ kj49 =>
                                    have H := HA.out
                                    clear HA
                                    simp only [terracelaw19_SpeedBounds.j4] at H
                                    by_cases c77 : x124_49 = true
                                    · subst c77
                                      have H1 : (some false) = some r := by rw [if_pos rfl] at H; exact H
                                      clear H
                                      have H := H1
                                      clear H1
                                      obtain rfl := Option.some.inj H
                                      go_wp2
                                      go_ret
                                      exact ⟨by first | rfl | (simp [errW_none, errW_some] <;> rfl) | (simp [*, errW_none, errW_some] <;> rfl), by repeat (first | (with_reducible first | exact HB.out | apply below_alloc | apply pw_below_drewN | apply below_drew1 | refine below_set ?_ (IsS48.ge HI166.out) | refine below_set ?_ GE171.out) | exact HB.out)⟩
                                    · replace c77 := Bool.eq_false_iff.mpr c77
                                      subst c77
                                      have H1 : (terracelaw19_SpeedBounds.l0 kj49 a0 l2 (l2.length : Int) (wrap64 (x38_3 + 1)) x167000_49 x167001_49) = some r := by rw [if_neg (show ¬ (false = true) by decide)] at H; exact H
                                      clear H
                                      have H := H1
                                      clear H1
                                      have H' := Aside0.mk H
                                      clear H
                                      go_wp2
                                      go_roundg kj49
                                      case measure => have := HJ8.out; have := HJ14.out; have := HK3.out; have := HJ49.out; omega
                                      case rel => exact ⟨(wrap64 (x38_3 + 1)), (x167000_49), (x167001_49), (by first | rfl | (simp; done) | (simp [*]; done)), H', ⟨by have := HJ8.out; have := HJ14.out; have := HK3.out; have := HJ49.out; omega⟩, ⟨by repeat (first | (with_reducible first | exact HI166.out | apply IsS48.alloc | apply IsS48.drewN | apply IsS48.drew | apply IsS48.set_0 | apply IsS48.set_1 | refine IsS48.far ?_ NB166_171.out _) | exact HI166.out)⟩, ⟨by repeat (first | (with_reducible first | exact HB.out | apply below_alloc | apply pw_below_drewN | apply below_drew1 | refine below_set ?_ (IsS48.ge HI166.out) | refine below_set ?_ GE171.out) | exact HB.out)⟩⟩
                              · rw [if_neg c48] at H
                                have c48b0 : (((rd_T38 l2 x38_3).f0) == 2) = false := beq_eq_false_iff_ne.mpr c48
                                have c48b1 : (((rd_T38 l2 x38_3).f0) != 2) = true := bne_iff_ne.mpr c48
                                by_cases c78 : ((rd_T38 l2 x38_3).f0) = 3
                                · rw [if_pos c78] at H
                                  have c78b0 : (((rd_T38 l2 x38_3).f0) == 3) = true := beq_iff_eq.mpr c78
                                  have c78b1 : (((rd_T38 l2 x38_3).f0) != 3) = false := bne_eq_false_iff_eq.mpr c78
                                  clear c78
                                  replace H := Option.bind_eq_some_iff.mp H
                                  obtain ⟨⟨t199, t200⟩, A790, H⟩ := H
                                  replace H : ((speed_Speed_Rate.f t199 t200).bind fun bt201 => (if bt201.1 > t172 then (some false) else (terracelaw19_SpeedBounds.l0 k3 a0 l2 (l2.length : Int) (wrap64 (x38_3 + 1)) bt201.2.1 bt201.2.2))) = some r := H
                                  have A79 := Aside0.mk A790
                                  clear A790
                                  replace H := Option.bind_eq_some_iff.mp H
                                  obtain ⟨⟨t201, t202, t203⟩, A800, H⟩ := H
                                  replace H : (if t201 > t172 then (some false) else (terracelaw19_SpeedBounds.l0 k3 a0 l2 (l2.length : Int) (wrap64 (x38_3 + 1)) t202 t203)) = some r := H
                                  have A80 := Aside0.mk A800
                                  clear A800
                                  by_cases c81 : t201 > t172
                                  · rw [if_pos c81] at H
                                    have c81b0 : decide (t172 < t201) = true := decide_eq_true c81
                                    clear c81
                                    obtain rfl := Option.some.inj H
                                    have p170 : 0 ≤ (x38_3 : Int) := of_decide_eq_true (by first | (with_reducible assumption) | assumption)
                                    have q170 : x38_3 < (l2.length : Int) := of_decide_eq_true (by first | (with_reducible assumption) | assumption)
                                    obtain ⟨ad170, e170, hx170_0, hx170_1, hx170_2, hx170_3⟩ := at_T38 HR2.out x38_3 p170 q170
                                    cases e170
                                    replace hx170_0 := (HB.out.cell (World.block_lt_of_cell? w _ hx170_0)).trans hx170_0
                                    replace hx170_1 := (HB.out.cell (World.block_lt_of_cell? w _ hx170_1)).trans hx170_1
                                    replace hx170_2 := (HB.out.cell (World.block_lt_of_cell? w _ hx170_2)).trans hx170_2
                                    replace hx170_3 := (HB.out.cell (World.block_lt_of_cell? w _ hx170_3)).trans hx170_3
                                    replace p170 := eq_true p170
                                    replace q170 := eq_true q170
                                    go_wp2_with (first | ((with_reducible refine gate_dst (N := 10) rfl ?_); (try (refine gate_guard (by rfl) ?_; dsimp only)); refine box_event ?hg (N := 10) ?hd (cs := #[.int .i64 0, .int .i64 0, .int .i64 0, .int .u64 0]) (t := 38) ?hr ?_; (case hd => rfl); (case hg => rfl); (case hr => first | (go_simp; done) | (go_simp; rfl)); intro gb171 hg w82 hbox hb; have n0_ := Aside0.mk (IsS48.below (by repeat (first | (with_reducible first | exact HI166.out | apply IsS48.alloc | apply IsS48.drewN | apply IsS48.drew | apply IsS48.set_0 | apply IsS48.set_1) | exact HI166.out)) hb); have n1_ := Aside0.mk (below_step (by repeat (first | (with_reducible first | exact HB.out | apply below_alloc | apply pw_below_drewN | apply below_drew1 | refine below_set ?_ (IsS48.ge HI166.out)) | exact HB.out)) hb); have n2_ := Aside0.mk (hbox); have n3_ := Aside0.mk ((by rw [hg]; exact (below_size (by repeat (first | (with_reducible first | exact HB.out | apply below_alloc | apply pw_below_drewN | apply below_drew1 | refine below_set ?_ (IsS48.ge HI166.out)) | exact HB.out))) : w.heap.size ≤ gb171)); have n4_ := Aside0.mk ((by rw [hg]; exact (below_size (by repeat (first | (with_reducible first | exact HB.out | apply below_alloc | apply pw_below_drewN | apply below_drew1 | refine below_set ?_ (IsS48.ge HI166.out)) | exact HB.out))) : w.heap.size ≤ gb171)); have n5_ := Aside0.mk ((by rw [hg]; exact Nat.ne_of_lt (IsS48.lt (show IsS48 w _ g166 x167000_3 x167001_3 from by repeat (first | (with_reducible first | exact HI166.out | apply IsS48.alloc | apply IsS48.drewN | apply IsS48.drew | apply IsS48.set_0 | apply IsS48.set_1) | exact HI166.out))) : g166 ≠ gb171)); have n6_ := Aside0.mk ((by rw [hg]; exact Nat.ne_of_gt (IsS48.lt (show IsS48 w _ g166 x167000_3 x167001_3 from by repeat (first | (with_reducible first | exact HI166.out | apply IsS48.alloc | apply IsS48.drewN | apply IsS48.drew | apply IsS48.set_0 | apply IsS48.set_1) | exact HI166.out))) : gb171 ≠ g166)); clear HI166; clear HB; have HI166 := n0_; have HB := n1_; have BK171 := n2_; have GW171 := n3_; have GE171 := n4_; have NB166_171 := n5_; have NB171_166 := n6_; clear n0_ n1_ n2_ n3_ n4_ n5_ n6_; clear hb hbox hg; have hnb83 := NB171_166.out; have hnc83 := NB166_171.out; have hcz84_0 : w82.cell? ⟨gb171, 0, none⟩ = some (.int .i64 0) := (blk_cell BK171.out 0).trans rfl; have hcz84_1 : w82.cell? ⟨gb171, 1, none⟩ = some (.int .i64 0) := (blk_cell BK171.out 1).trans rfl; have hcz84_2 : w82.cell? ⟨gb171, 2, none⟩ = some (.int .i64 0) := (blk_cell BK171.out 2).trans rfl; have hcz84_3 : w82.cell? ⟨gb171, 3, none⟩ = some (.int .u64 0) := (blk_cell BK171.out 3).trans rfl; have hfz84_0 := blk_frozen BK171.out 0; have hfz84_1 := blk_frozen BK171.out 1; have hfz84_2 := blk_frozen BK171.out 2; have hfz84_3 := blk_frozen BK171.out 3) | ((with_reducible refine gate_callee (f := 11) rfl ?_); refine goesL_ (some 43) rfl rfl Try.func11 (by kernel_rfl) rfl #[.pointer (some ⟨g166, 0, none⟩)] rfl (by (try simp only [List.map_toArray, List.map_cons, List.map_nil]); first | done | rfl | (simp only [List.length_drop, List.length_take]; rfl)) ?_; (with_reducible refine (speed_Speed_Rate.calls g166 x167000_3 x167001_3 t172 t173 t174 w _ ?side1 ?side2 A21.out).mono ?_); (case side1 => repeat (first | (with_reducible first | exact HI166.out | apply IsS48.alloc | apply IsS48.drewN | apply IsS48.drew | apply IsS48.set_0 | apply IsS48.set_1 | refine IsS48.far ?_ NB166_171.out _) | exact HI166.out)); (case side2 => repeat (first | (with_reducible first | exact HB.out | apply below_alloc | apply pw_below_drewN | apply below_drew1 | refine below_set ?_ (IsS48.ge HI166.out) | refine below_set ?_ GE171.out) | exact HB.out)); rintro e w85 ⟨rfl, hi, hb, hk⟩; refine ⟨_, rfl, ?_⟩; have n0_ := Aside0.mk (KeepBut.blk hk (g' := gb171) (o := .cells #[.int .i64 ((rd_T38 l2 x38_3).f0), .int .i64 ((rd_T38 l2 x38_3).f1), .int .i64 ((rd_T38 l2 x38_3).f2), .int .u64 ((rd_T38 l2 x38_3).f3)] 38 (0, 0)) (by (with_reducible repeat (first | refine blk_drewN ?_ _ | refine blk_drew ?_ | refine blk_alloc ?_ _)); refine blk_put (cs := #[.int .i64 ((rd_T38 l2 x38_3).f0), .int .i64 ((rd_T38 l2 x38_3).f1), .int .i64 ((rd_T38 l2 x38_3).f2), .int .u64 0]) ?_ 3 _ rfl; (with_reducible repeat (first | refine blk_drewN ?_ _ | refine blk_drew ?_ | refine blk_alloc ?_ _)); refine blk_put (cs := #[.int .i64 ((rd_T38 l2 x38_3).f0), .int .i64 ((rd_T38 l2 x38_3).f1), .int .i64 0, .int .u64 0]) ?_ 2 _ rfl; (with_reducible repeat (first | refine blk_drewN ?_ _ | refine blk_drew ?_ | refine blk_alloc ?_ _)); refine blk_put (cs := #[.int .i64 ((rd_T38 l2 x38_3).f0), .int .i64 0, .int .i64 0, .int .u64 0]) ?_ 1 _ rfl; (with_reducible repeat (first | refine blk_drewN ?_ _ | refine blk_drew ?_ | refine blk_alloc ?_ _)); refine blk_put (cs := #[.int .i64 0, .int .i64 0, .int .i64 0, .int .u64 0]) ?_ 0 _ rfl; (with_reducible repeat (first | refine blk_drewN ?_ _ | refine blk_drew ?_ | refine blk_alloc ?_ _)); exact BK171.out) NB171_166.out (by simp)); have n1_ := Aside0.mk (hb); have n2_ := Aside0.mk (hi); clear BK171; clear HB; clear HI166; have BK171 := n0_; have HB := n1_; have HI166 := n2_; clear n0_ n1_ n2_; (try clear hb); (try clear hb2); (try clear hk); (try clear hi); have hcz86_0 : w85.cell? ⟨gb171, 0, none⟩ = some (.int .i64 ((rd_T38 l2 x38_3).f0)) := (blk_cell BK171.out 0).trans rfl; have hcz86_1 : w85.cell? ⟨gb171, 1, none⟩ = some (.int .i64 ((rd_T38 l2 x38_3).f1)) := (blk_cell BK171.out 1).trans rfl; have hcz86_2 : w85.cell? ⟨gb171, 2, none⟩ = some (.int .i64 ((rd_T38 l2 x38_3).f2)) := (blk_cell BK171.out 2).trans rfl; have hcz86_3 : w85.cell? ⟨gb171, 3, none⟩ = some (.int .u64 ((rd_T38 l2 x38_3).f3)) := (blk_cell BK171.out 3).trans rfl; have hfz86_0 := blk_frozen BK171.out 0; have hfz86_1 := blk_frozen BK171.out 1; have hfz86_2 := blk_frozen BK171.out 2; have hfz86_3 := blk_frozen BK171.out 3) | ((with_reducible refine gate_callee (f := 15) rfl ?_); refine goesL_ (some 128) rfl rfl Try.func15 (by kernel_rfl) rfl #[.pointer (some ⟨g166, 0, none⟩)] rfl (by (try simp only [List.map_toArray, List.map_cons, List.map_nil]); first | done | rfl | (simp only [List.length_drop, List.length_take]; rfl)) ?_; (with_reducible refine (speed_Speed_Left.calls g166 t173 t174 t199 t200 w _ ?side1 ?side2 A79.out).mono ?_); (case side1 => repeat (first | (with_reducible first | exact HI166.out | apply IsS48.alloc | apply IsS48.drewN | apply IsS48.drew | apply IsS48.set_0 | apply IsS48.set_1 | refine IsS48.far ?_ NB166_171.out _) | exact HI166.out)); (case side2 => repeat (first | (with_reducible first | exact HB.out | apply below_alloc | apply pw_below_drewN | apply below_drew1 | refine below_set ?_ (IsS48.ge HI166.out) | refine below_set ?_ GE171.out) | exact HB.out)); rintro e w87 ⟨rfl, hi, hb, hk⟩; refine ⟨_, rfl, ?_⟩; have n0_ := Aside0.mk (KeepBut.blk hk (g' := gb171) (o := .cells #[.int .i64 ((rd_T38 l2 x38_3).f0), .int .i64 ((rd_T38 l2 x38_3).f1), .int .i64 ((rd_T38 l2 x38_3).f2), .int .u64 ((rd_T38 l2 x38_3).f3)] 38 (0, 0)) (by (with_reducible repeat (first | refine blk_drewN ?_ _ | refine blk_drew ?_ | refine blk_alloc ?_ _)); exact BK171.out) NB171_166.out (by simp)); have n1_ := Aside0.mk (hb); have n2_ := Aside0.mk (hi); clear BK171; clear HB; clear HI166; have BK171 := n0_; have HB := n1_; have HI166 := n2_; clear n0_ n1_ n2_; (try clear hb); (try clear hb2); (try clear hk); (try clear hi)) | ((with_reducible refine gate_callee (f := 11) rfl ?_); refine goesL_ (some 130) rfl rfl Try.func11 (by kernel_rfl) rfl #[.pointer (some ⟨g166, 0, none⟩)] rfl (by (try simp only [List.map_toArray, List.map_cons, List.map_nil]); first | done | rfl | (simp only [List.length_drop, List.length_take]; rfl)) ?_; (with_reducible refine (speed_Speed_Rate.calls g166 t199 t200 t201 t202 t203 w _ ?side1 ?side2 A80.out).mono ?_); (case side1 => repeat (first | (with_reducible first | exact HI166.out | apply IsS48.alloc | apply IsS48.drewN | apply IsS48.drew | apply IsS48.set_0 | apply IsS48.set_1 | refine IsS48.far ?_ NB166_171.out _) | exact HI166.out)); (case side2 => repeat (first | (with_reducible first | exact HB.out | apply below_alloc | apply pw_below_drewN | apply below_drew1 | refine below_set ?_ (IsS48.ge HI166.out) | refine below_set ?_ GE171.out) | exact HB.out)); rintro e w88 ⟨rfl, hi, hb, hk⟩; refine ⟨_, rfl, ?_⟩; have n0_ := Aside0.mk (KeepBut.blk hk (g' := gb171) (o := .cells #[.int .i64 ((rd_T38 l2 x38_3).f0), .int .i64 ((rd_T38 l2 x38_3).f1), .int .i64 ((rd_T38 l2 x38_3).f2), .int .u64 ((rd_T38 l2 x38_3).f3)] 38 (0, 0)) (by (with_reducible repeat (first | refine blk_drewN ?_ _ | refine blk_drew ?_ | refine blk_alloc ?_ _)); exact BK171.out) NB171_166.out (by simp)); have n1_ := Aside0.mk (hb); have n2_ := Aside0.mk (hi); clear BK171; clear HB; clear HI166; have BK171 := n0_; have HB := n1_; have HI166 := n2_; clear n0_ n1_ n2_; (try clear hb); (try clear hb2); (try clear hk); (try clear hi)))
                                    go_ret
                                    exact ⟨by first | rfl | (simp [errW_none, errW_some] <;> rfl) | (simp [*, errW_none, errW_some] <;> rfl), by repeat (first | (with_reducible first | exact HB.out | apply below_alloc | apply pw_below_drewN | apply below_drew1 | refine below_set ?_ (IsS48.ge HI166.out) | refine below_set ?_ GE171.out) | exact HB.out)⟩
                                  · rw [if_neg c81] at H
                                    have c81b0 : decide (t172 < t201) = false := decide_eq_false c81
                                    clear c81
                                    have H' := Aside0.mk H
                                    clear H
                                    have p170 : 0 ≤ (x38_3 : Int) := of_decide_eq_true (by first | (with_reducible assumption) | assumption)
                                    have q170 : x38_3 < (l2.length : Int) := of_decide_eq_true (by first | (with_reducible assumption) | assumption)
                                    obtain ⟨ad170, e170, hx170_0, hx170_1, hx170_2, hx170_3⟩ := at_T38 HR2.out x38_3 p170 q170
                                    cases e170
                                    replace hx170_0 := (HB.out.cell (World.block_lt_of_cell? w _ hx170_0)).trans hx170_0
                                    replace hx170_1 := (HB.out.cell (World.block_lt_of_cell? w _ hx170_1)).trans hx170_1
                                    replace hx170_2 := (HB.out.cell (World.block_lt_of_cell? w _ hx170_2)).trans hx170_2
                                    replace hx170_3 := (HB.out.cell (World.block_lt_of_cell? w _ hx170_3)).trans hx170_3
                                    replace p170 := eq_true p170
                                    replace q170 := eq_true q170
                                    go_wp2_with (first | ((with_reducible refine gate_dst (N := 10) rfl ?_); (try (refine gate_guard (by rfl) ?_; dsimp only)); refine box_event ?hg (N := 10) ?hd (cs := #[.int .i64 0, .int .i64 0, .int .i64 0, .int .u64 0]) (t := 38) ?hr ?_; (case hd => rfl); (case hg => rfl); (case hr => first | (go_simp; done) | (go_simp; rfl)); intro gb171 hg w89 hbox hb; have n0_ := Aside0.mk (IsS48.below (by repeat (first | (with_reducible first | exact HI166.out | apply IsS48.alloc | apply IsS48.drewN | apply IsS48.drew | apply IsS48.set_0 | apply IsS48.set_1) | exact HI166.out)) hb); have n1_ := Aside0.mk (below_step (by repeat (first | (with_reducible first | exact HB.out | apply below_alloc | apply pw_below_drewN | apply below_drew1 | refine below_set ?_ (IsS48.ge HI166.out)) | exact HB.out)) hb); have n2_ := Aside0.mk (hbox); have n3_ := Aside0.mk ((by rw [hg]; exact (below_size (by repeat (first | (with_reducible first | exact HB.out | apply below_alloc | apply pw_below_drewN | apply below_drew1 | refine below_set ?_ (IsS48.ge HI166.out)) | exact HB.out))) : w.heap.size ≤ gb171)); have n4_ := Aside0.mk ((by rw [hg]; exact (below_size (by repeat (first | (with_reducible first | exact HB.out | apply below_alloc | apply pw_below_drewN | apply below_drew1 | refine below_set ?_ (IsS48.ge HI166.out)) | exact HB.out))) : w.heap.size ≤ gb171)); have n5_ := Aside0.mk ((by rw [hg]; exact Nat.ne_of_lt (IsS48.lt (show IsS48 w _ g166 x167000_3 x167001_3 from by repeat (first | (with_reducible first | exact HI166.out | apply IsS48.alloc | apply IsS48.drewN | apply IsS48.drew | apply IsS48.set_0 | apply IsS48.set_1) | exact HI166.out))) : g166 ≠ gb171)); have n6_ := Aside0.mk ((by rw [hg]; exact Nat.ne_of_gt (IsS48.lt (show IsS48 w _ g166 x167000_3 x167001_3 from by repeat (first | (with_reducible first | exact HI166.out | apply IsS48.alloc | apply IsS48.drewN | apply IsS48.drew | apply IsS48.set_0 | apply IsS48.set_1) | exact HI166.out))) : gb171 ≠ g166)); clear HI166; clear HB; have HI166 := n0_; have HB := n1_; have BK171 := n2_; have GW171 := n3_; have GE171 := n4_; have NB166_171 := n5_; have NB171_166 := n6_; clear n0_ n1_ n2_ n3_ n4_ n5_ n6_; clear hb hbox hg; have hnb90 := NB171_166.out; have hnc90 := NB166_171.out; have hcz91_0 : w89.cell? ⟨gb171, 0, none⟩ = some (.int .i64 0) := (blk_cell BK171.out 0).trans rfl; have hcz91_1 : w89.cell? ⟨gb171, 1, none⟩ = some (.int .i64 0) := (blk_cell BK171.out 1).trans rfl; have hcz91_2 : w89.cell? ⟨gb171, 2, none⟩ = some (.int .i64 0) := (blk_cell BK171.out 2).trans rfl; have hcz91_3 : w89.cell? ⟨gb171, 3, none⟩ = some (.int .u64 0) := (blk_cell BK171.out 3).trans rfl; have hfz91_0 := blk_frozen BK171.out 0; have hfz91_1 := blk_frozen BK171.out 1; have hfz91_2 := blk_frozen BK171.out 2; have hfz91_3 := blk_frozen BK171.out 3) | ((with_reducible refine gate_callee (f := 11) rfl ?_); refine goesL_ (some 43) rfl rfl Try.func11 (by kernel_rfl) rfl #[.pointer (some ⟨g166, 0, none⟩)] rfl (by (try simp only [List.map_toArray, List.map_cons, List.map_nil]); first | done | rfl | (simp only [List.length_drop, List.length_take]; rfl)) ?_; (with_reducible refine (speed_Speed_Rate.calls g166 x167000_3 x167001_3 t172 t173 t174 w _ ?side1 ?side2 A21.out).mono ?_); (case side1 => repeat (first | (with_reducible first | exact HI166.out | apply IsS48.alloc | apply IsS48.drewN | apply IsS48.drew | apply IsS48.set_0 | apply IsS48.set_1 | refine IsS48.far ?_ NB166_171.out _) | exact HI166.out)); (case side2 => repeat (first | (with_reducible first | exact HB.out | apply below_alloc | apply pw_below_drewN | apply below_drew1 | refine below_set ?_ (IsS48.ge HI166.out) | refine below_set ?_ GE171.out) | exact HB.out)); rintro e w92 ⟨rfl, hi, hb, hk⟩; refine ⟨_, rfl, ?_⟩; have n0_ := Aside0.mk (KeepBut.blk hk (g' := gb171) (o := .cells #[.int .i64 ((rd_T38 l2 x38_3).f0), .int .i64 ((rd_T38 l2 x38_3).f1), .int .i64 ((rd_T38 l2 x38_3).f2), .int .u64 ((rd_T38 l2 x38_3).f3)] 38 (0, 0)) (by (with_reducible repeat (first | refine blk_drewN ?_ _ | refine blk_drew ?_ | refine blk_alloc ?_ _)); refine blk_put (cs := #[.int .i64 ((rd_T38 l2 x38_3).f0), .int .i64 ((rd_T38 l2 x38_3).f1), .int .i64 ((rd_T38 l2 x38_3).f2), .int .u64 0]) ?_ 3 _ rfl; (with_reducible repeat (first | refine blk_drewN ?_ _ | refine blk_drew ?_ | refine blk_alloc ?_ _)); refine blk_put (cs := #[.int .i64 ((rd_T38 l2 x38_3).f0), .int .i64 ((rd_T38 l2 x38_3).f1), .int .i64 0, .int .u64 0]) ?_ 2 _ rfl; (with_reducible repeat (first | refine blk_drewN ?_ _ | refine blk_drew ?_ | refine blk_alloc ?_ _)); refine blk_put (cs := #[.int .i64 ((rd_T38 l2 x38_3).f0), .int .i64 0, .int .i64 0, .int .u64 0]) ?_ 1 _ rfl; (with_reducible repeat (first | refine blk_drewN ?_ _ | refine blk_drew ?_ | refine blk_alloc ?_ _)); refine blk_put (cs := #[.int .i64 0, .int .i64 0, .int .i64 0, .int .u64 0]) ?_ 0 _ rfl; (with_reducible repeat (first | refine blk_drewN ?_ _ | refine blk_drew ?_ | refine blk_alloc ?_ _)); exact BK171.out) NB171_166.out (by simp)); have n1_ := Aside0.mk (hb); have n2_ := Aside0.mk (hi); clear BK171; clear HB; clear HI166; have BK171 := n0_; have HB := n1_; have HI166 := n2_; clear n0_ n1_ n2_; (try clear hb); (try clear hb2); (try clear hk); (try clear hi); have hcz93_0 : w92.cell? ⟨gb171, 0, none⟩ = some (.int .i64 ((rd_T38 l2 x38_3).f0)) := (blk_cell BK171.out 0).trans rfl; have hcz93_1 : w92.cell? ⟨gb171, 1, none⟩ = some (.int .i64 ((rd_T38 l2 x38_3).f1)) := (blk_cell BK171.out 1).trans rfl; have hcz93_2 : w92.cell? ⟨gb171, 2, none⟩ = some (.int .i64 ((rd_T38 l2 x38_3).f2)) := (blk_cell BK171.out 2).trans rfl; have hcz93_3 : w92.cell? ⟨gb171, 3, none⟩ = some (.int .u64 ((rd_T38 l2 x38_3).f3)) := (blk_cell BK171.out 3).trans rfl; have hfz93_0 := blk_frozen BK171.out 0; have hfz93_1 := blk_frozen BK171.out 1; have hfz93_2 := blk_frozen BK171.out 2; have hfz93_3 := blk_frozen BK171.out 3) | ((with_reducible refine gate_callee (f := 15) rfl ?_); refine goesL_ (some 128) rfl rfl Try.func15 (by kernel_rfl) rfl #[.pointer (some ⟨g166, 0, none⟩)] rfl (by (try simp only [List.map_toArray, List.map_cons, List.map_nil]); first | done | rfl | (simp only [List.length_drop, List.length_take]; rfl)) ?_; (with_reducible refine (speed_Speed_Left.calls g166 t173 t174 t199 t200 w _ ?side1 ?side2 A79.out).mono ?_); (case side1 => repeat (first | (with_reducible first | exact HI166.out | apply IsS48.alloc | apply IsS48.drewN | apply IsS48.drew | apply IsS48.set_0 | apply IsS48.set_1 | refine IsS48.far ?_ NB166_171.out _) | exact HI166.out)); (case side2 => repeat (first | (with_reducible first | exact HB.out | apply below_alloc | apply pw_below_drewN | apply below_drew1 | refine below_set ?_ (IsS48.ge HI166.out) | refine below_set ?_ GE171.out) | exact HB.out)); rintro e w94 ⟨rfl, hi, hb, hk⟩; refine ⟨_, rfl, ?_⟩; have n0_ := Aside0.mk (KeepBut.blk hk (g' := gb171) (o := .cells #[.int .i64 ((rd_T38 l2 x38_3).f0), .int .i64 ((rd_T38 l2 x38_3).f1), .int .i64 ((rd_T38 l2 x38_3).f2), .int .u64 ((rd_T38 l2 x38_3).f3)] 38 (0, 0)) (by (with_reducible repeat (first | refine blk_drewN ?_ _ | refine blk_drew ?_ | refine blk_alloc ?_ _)); exact BK171.out) NB171_166.out (by simp)); have n1_ := Aside0.mk (hb); have n2_ := Aside0.mk (hi); clear BK171; clear HB; clear HI166; have BK171 := n0_; have HB := n1_; have HI166 := n2_; clear n0_ n1_ n2_; (try clear hb); (try clear hb2); (try clear hk); (try clear hi)) | ((with_reducible refine gate_callee (f := 11) rfl ?_); refine goesL_ (some 130) rfl rfl Try.func11 (by kernel_rfl) rfl #[.pointer (some ⟨g166, 0, none⟩)] rfl (by (try simp only [List.map_toArray, List.map_cons, List.map_nil]); first | done | rfl | (simp only [List.length_drop, List.length_take]; rfl)) ?_; (with_reducible refine (speed_Speed_Rate.calls g166 t199 t200 t201 t202 t203 w _ ?side1 ?side2 A80.out).mono ?_); (case side1 => repeat (first | (with_reducible first | exact HI166.out | apply IsS48.alloc | apply IsS48.drewN | apply IsS48.drew | apply IsS48.set_0 | apply IsS48.set_1 | refine IsS48.far ?_ NB166_171.out _) | exact HI166.out)); (case side2 => repeat (first | (with_reducible first | exact HB.out | apply below_alloc | apply pw_below_drewN | apply below_drew1 | refine below_set ?_ (IsS48.ge HI166.out) | refine below_set ?_ GE171.out) | exact HB.out)); rintro e w95 ⟨rfl, hi, hb, hk⟩; refine ⟨_, rfl, ?_⟩; have n0_ := Aside0.mk (KeepBut.blk hk (g' := gb171) (o := .cells #[.int .i64 ((rd_T38 l2 x38_3).f0), .int .i64 ((rd_T38 l2 x38_3).f1), .int .i64 ((rd_T38 l2 x38_3).f2), .int .u64 ((rd_T38 l2 x38_3).f3)] 38 (0, 0)) (by (with_reducible repeat (first | refine blk_drewN ?_ _ | refine blk_drew ?_ | refine blk_alloc ?_ _)); exact BK171.out) NB171_166.out (by simp)); have n1_ := Aside0.mk (hb); have n2_ := Aside0.mk (hi); clear BK171; clear HB; clear HI166; have BK171 := n0_; have HB := n1_; have HI166 := n2_; clear n0_ n1_ n2_; (try clear hb); (try clear hb2); (try clear hk); (try clear hi)))
                                    go_roundg k3
                                    case measure => have := HJ8.out; have := HJ14.out; have := HK3.out; omega
                                    case rel => exact ⟨(wrap64 (x38_3 + 1)), (t202), (t203), (by first | rfl | (simp; done) | (simp [*]; done)), H', ⟨by have := HJ8.out; have := HJ14.out; have := HK3.out; omega⟩, ⟨by repeat (first | (with_reducible first | exact HI166.out | apply IsS48.alloc | apply IsS48.drewN | apply IsS48.drew | apply IsS48.set_0 | apply IsS48.set_1 | refine IsS48.far ?_ NB166_171.out _) | exact HI166.out)⟩, ⟨by repeat (first | (with_reducible first | exact HB.out | apply below_alloc | apply pw_below_drewN | apply below_drew1 | refine below_set ?_ (IsS48.ge HI166.out) | refine below_set ?_ GE171.out) | exact HB.out)⟩⟩
                                · rw [if_neg c78] at H
                                  have c78b0 : (((rd_T38 l2 x38_3).f0) == 3) = false := beq_eq_false_iff_ne.mpr c78
                                  have c78b1 : (((rd_T38 l2 x38_3).f0) != 3) = true := bne_iff_ne.mpr c78
                                  have H' := Aside0.mk H
                                  clear H
                                  have p170 : 0 ≤ (x38_3 : Int) := of_decide_eq_true (by first | (with_reducible assumption) | assumption)
                                  have q170 : x38_3 < (l2.length : Int) := of_decide_eq_true (by first | (with_reducible assumption) | assumption)
                                  obtain ⟨ad170, e170, hx170_0, hx170_1, hx170_2, hx170_3⟩ := at_T38 HR2.out x38_3 p170 q170
                                  cases e170
                                  replace hx170_0 := (HB.out.cell (World.block_lt_of_cell? w _ hx170_0)).trans hx170_0
                                  replace hx170_1 := (HB.out.cell (World.block_lt_of_cell? w _ hx170_1)).trans hx170_1
                                  replace hx170_2 := (HB.out.cell (World.block_lt_of_cell? w _ hx170_2)).trans hx170_2
                                  replace hx170_3 := (HB.out.cell (World.block_lt_of_cell? w _ hx170_3)).trans hx170_3
                                  replace p170 := eq_true p170
                                  replace q170 := eq_true q170
                                  go_wp2_with (first | ((with_reducible refine gate_dst (N := 10) rfl ?_); (try (refine gate_guard (by rfl) ?_; dsimp only)); refine box_event ?hg (N := 10) ?hd (cs := #[.int .i64 0, .int .i64 0, .int .i64 0, .int .u64 0]) (t := 38) ?hr ?_; (case hd => rfl); (case hg => rfl); (case hr => first | (go_simp; done) | (go_simp; rfl)); intro gb171 hg w96 hbox hb; have n0_ := Aside0.mk (IsS48.below (by repeat (first | (with_reducible first | exact HI166.out | apply IsS48.alloc | apply IsS48.drewN | apply IsS48.drew | apply IsS48.set_0 | apply IsS48.set_1) | exact HI166.out)) hb); have n1_ := Aside0.mk (below_step (by repeat (first | (with_reducible first | exact HB.out | apply below_alloc | apply pw_below_drewN | apply below_drew1 | refine below_set ?_ (IsS48.ge HI166.out)) | exact HB.out)) hb); have n2_ := Aside0.mk (hbox); have n3_ := Aside0.mk ((by rw [hg]; exact (below_size (by repeat (first | (with_reducible first | exact HB.out | apply below_alloc | apply pw_below_drewN | apply below_drew1 | refine below_set ?_ (IsS48.ge HI166.out)) | exact HB.out))) : w.heap.size ≤ gb171)); have n4_ := Aside0.mk ((by rw [hg]; exact (below_size (by repeat (first | (with_reducible first | exact HB.out | apply below_alloc | apply pw_below_drewN | apply below_drew1 | refine below_set ?_ (IsS48.ge HI166.out)) | exact HB.out))) : w.heap.size ≤ gb171)); have n5_ := Aside0.mk ((by rw [hg]; exact Nat.ne_of_lt (IsS48.lt (show IsS48 w _ g166 x167000_3 x167001_3 from by repeat (first | (with_reducible first | exact HI166.out | apply IsS48.alloc | apply IsS48.drewN | apply IsS48.drew | apply IsS48.set_0 | apply IsS48.set_1) | exact HI166.out))) : g166 ≠ gb171)); have n6_ := Aside0.mk ((by rw [hg]; exact Nat.ne_of_gt (IsS48.lt (show IsS48 w _ g166 x167000_3 x167001_3 from by repeat (first | (with_reducible first | exact HI166.out | apply IsS48.alloc | apply IsS48.drewN | apply IsS48.drew | apply IsS48.set_0 | apply IsS48.set_1) | exact HI166.out))) : gb171 ≠ g166)); clear HI166; clear HB; have HI166 := n0_; have HB := n1_; have BK171 := n2_; have GW171 := n3_; have GE171 := n4_; have NB166_171 := n5_; have NB171_166 := n6_; clear n0_ n1_ n2_ n3_ n4_ n5_ n6_; clear hb hbox hg; have hnb97 := NB171_166.out; have hnc97 := NB166_171.out; have hcz98_0 : w96.cell? ⟨gb171, 0, none⟩ = some (.int .i64 0) := (blk_cell BK171.out 0).trans rfl; have hcz98_1 : w96.cell? ⟨gb171, 1, none⟩ = some (.int .i64 0) := (blk_cell BK171.out 1).trans rfl; have hcz98_2 : w96.cell? ⟨gb171, 2, none⟩ = some (.int .i64 0) := (blk_cell BK171.out 2).trans rfl; have hcz98_3 : w96.cell? ⟨gb171, 3, none⟩ = some (.int .u64 0) := (blk_cell BK171.out 3).trans rfl; have hfz98_0 := blk_frozen BK171.out 0; have hfz98_1 := blk_frozen BK171.out 1; have hfz98_2 := blk_frozen BK171.out 2; have hfz98_3 := blk_frozen BK171.out 3) | ((with_reducible refine gate_callee (f := 11) rfl ?_); refine goesL_ (some 43) rfl rfl Try.func11 (by kernel_rfl) rfl #[.pointer (some ⟨g166, 0, none⟩)] rfl (by (try simp only [List.map_toArray, List.map_cons, List.map_nil]); first | done | rfl | (simp only [List.length_drop, List.length_take]; rfl)) ?_; (with_reducible refine (speed_Speed_Rate.calls g166 x167000_3 x167001_3 t172 t173 t174 w _ ?side1 ?side2 A21.out).mono ?_); (case side1 => repeat (first | (with_reducible first | exact HI166.out | apply IsS48.alloc | apply IsS48.drewN | apply IsS48.drew | apply IsS48.set_0 | apply IsS48.set_1 | refine IsS48.far ?_ NB166_171.out _) | exact HI166.out)); (case side2 => repeat (first | (with_reducible first | exact HB.out | apply below_alloc | apply pw_below_drewN | apply below_drew1 | refine below_set ?_ (IsS48.ge HI166.out) | refine below_set ?_ GE171.out) | exact HB.out)); rintro e w99 ⟨rfl, hi, hb, hk⟩; refine ⟨_, rfl, ?_⟩; have n0_ := Aside0.mk (KeepBut.blk hk (g' := gb171) (o := .cells #[.int .i64 ((rd_T38 l2 x38_3).f0), .int .i64 ((rd_T38 l2 x38_3).f1), .int .i64 ((rd_T38 l2 x38_3).f2), .int .u64 ((rd_T38 l2 x38_3).f3)] 38 (0, 0)) (by (with_reducible repeat (first | refine blk_drewN ?_ _ | refine blk_drew ?_ | refine blk_alloc ?_ _)); refine blk_put (cs := #[.int .i64 ((rd_T38 l2 x38_3).f0), .int .i64 ((rd_T38 l2 x38_3).f1), .int .i64 ((rd_T38 l2 x38_3).f2), .int .u64 0]) ?_ 3 _ rfl; (with_reducible repeat (first | refine blk_drewN ?_ _ | refine blk_drew ?_ | refine blk_alloc ?_ _)); refine blk_put (cs := #[.int .i64 ((rd_T38 l2 x38_3).f0), .int .i64 ((rd_T38 l2 x38_3).f1), .int .i64 0, .int .u64 0]) ?_ 2 _ rfl; (with_reducible repeat (first | refine blk_drewN ?_ _ | refine blk_drew ?_ | refine blk_alloc ?_ _)); refine blk_put (cs := #[.int .i64 ((rd_T38 l2 x38_3).f0), .int .i64 0, .int .i64 0, .int .u64 0]) ?_ 1 _ rfl; (with_reducible repeat (first | refine blk_drewN ?_ _ | refine blk_drew ?_ | refine blk_alloc ?_ _)); refine blk_put (cs := #[.int .i64 0, .int .i64 0, .int .i64 0, .int .u64 0]) ?_ 0 _ rfl; (with_reducible repeat (first | refine blk_drewN ?_ _ | refine blk_drew ?_ | refine blk_alloc ?_ _)); exact BK171.out) NB171_166.out (by simp)); have n1_ := Aside0.mk (hb); have n2_ := Aside0.mk (hi); clear BK171; clear HB; clear HI166; have BK171 := n0_; have HB := n1_; have HI166 := n2_; clear n0_ n1_ n2_; (try clear hb); (try clear hb2); (try clear hk); (try clear hi); have hcz100_0 : w99.cell? ⟨gb171, 0, none⟩ = some (.int .i64 ((rd_T38 l2 x38_3).f0)) := (blk_cell BK171.out 0).trans rfl; have hcz100_1 : w99.cell? ⟨gb171, 1, none⟩ = some (.int .i64 ((rd_T38 l2 x38_3).f1)) := (blk_cell BK171.out 1).trans rfl; have hcz100_2 : w99.cell? ⟨gb171, 2, none⟩ = some (.int .i64 ((rd_T38 l2 x38_3).f2)) := (blk_cell BK171.out 2).trans rfl; have hcz100_3 : w99.cell? ⟨gb171, 3, none⟩ = some (.int .u64 ((rd_T38 l2 x38_3).f3)) := (blk_cell BK171.out 3).trans rfl; have hfz100_0 := blk_frozen BK171.out 0; have hfz100_1 := blk_frozen BK171.out 1; have hfz100_2 := blk_frozen BK171.out 2; have hfz100_3 := blk_frozen BK171.out 3))
                                  go_roundg k3
                                  case measure => have := HJ8.out; have := HJ14.out; have := HK3.out; omega
                                  case rel => exact ⟨(wrap64 (x38_3 + 1)), (t173), (t174), (by first | rfl | (simp; done) | (simp [*]; done)), H', ⟨by have := HJ8.out; have := HJ14.out; have := HK3.out; omega⟩, ⟨by repeat (first | (with_reducible first | exact HI166.out | apply IsS48.alloc | apply IsS48.drewN | apply IsS48.drew | apply IsS48.set_0 | apply IsS48.set_1 | refine IsS48.far ?_ NB166_171.out _) | exact HI166.out)⟩, ⟨by repeat (first | (with_reducible first | exact HB.out | apply below_alloc | apply pw_below_drewN | apply below_drew1 | refine below_set ?_ (IsS48.ge HI166.out) | refine below_set ?_ GE171.out) | exact HB.out)⟩⟩
                          · rw [if_neg c20] at H
                            exact absurd H (by simp)
                        · rw [if_neg c19] at H
                          exact absurd H (by simp)
                      · rw [if_neg c18] at H
                        have c18b0 : decide (x38_3 < (l2.length : Int)) = false := decide_eq_false c18
                        clear c18
                        replace H := Option.bind_eq_some_iff.mp H
                        obtain ⟨t169, A1010, H⟩ := H
                        replace H : (some t169) = some r := H
                        have A101 := Aside0.mk A1010
                        clear A1010
                        obtain rfl := Option.some.inj H
                        go_wp2_with (first | ((with_reducible refine gate_callee (f := 8) rfl ?_); refine goesL_ (some 134) rfl rfl Try.func8 (by kernel_rfl) rfl #[] rfl (by (try simp only [List.map_toArray, List.map_cons, List.map_nil]); first | done | rfl | (simp only [List.length_drop, List.length_take]; rfl)) ?_; (with_reducible refine (terracelaw19_awake.calls k3  t169 _ A101.out).mono ?_); rintro e w102 ⟨rfl, hb⟩; refine ⟨_, rfl, ?_⟩; have n0_ := Aside0.mk (IsS48.below (by repeat (first | (with_reducible first | exact HI166.out | apply IsS48.alloc | apply IsS48.drewN | apply IsS48.drew | apply IsS48.set_0 | apply IsS48.set_1) | exact HI166.out)) hb); have n1_ := Aside0.mk (below_step (by repeat (first | (with_reducible first | exact HB.out | apply below_alloc | apply pw_below_drewN | apply below_drew1 | refine below_set ?_ (IsS48.ge HI166.out)) | exact HB.out)) hb); clear HI166; clear HB; have HI166 := n0_; have HB := n1_; clear n0_ n1_; (try clear hb); (try clear hb2); (try clear hk); (try clear hi)))
                        go_ret
                        exact ⟨by first | rfl | (simp [errW_none, errW_some] <;> rfl) | (simp [*, errW_none, errW_some] <;> rfl), by repeat (first | (with_reducible first | exact HB.out | apply below_alloc | apply pw_below_drewN | apply below_drew1 | refine below_set ?_ (IsS48.ge HI166.out)) | exact HB.out)⟩
    · rw [if_neg c7] at H
      have c7b0 : speed_New.ok a0 a1 = false := by simpa using c7
      clear c7
      replace H := Option.bind_eq_some_iff.mp H
      obtain ⟨t204, A1030, H⟩ := H
      replace H : (if a0 = 0 then (terracelaw19_SpeedBounds.j5 k t204 true) else (terracelaw19_SpeedBounds.j5 k t204 (decide (a1 < a0)))) = some r := H
      have A103 := Aside0.mk A1030
      clear A1030
      have HC104 := Aside0.mk H
      clear H
      go_enter Try.func4, Try.ntmps4
      go_upto_region 4 with (first | ((with_reducible refine gate_callee (f := 9) rfl ?_); refine goesL_ (some 19) rfl rfl Try.func9 (by kernel_rfl) rfl #[.int .u64 a0, .int .u64 a1] rfl (by (try simp only [List.map_toArray, List.map_cons, List.map_nil]); first | done | rfl | (simp only [List.length_drop, List.length_take]; rfl)) ?_; (with_reducible refine (speed_New_no.calls a0 a1 t204 _ A103.out).mono ?_); rintro e w105 ⟨rfl, hb⟩; refine ⟨_, rfl, ?_⟩; have n0_ := Aside0.mk (below_step (by repeat (first | (with_reducible first | exact HB.out | apply below_alloc | apply pw_below_drewN | apply below_drew1) | exact HB.out)) hb); clear HB; have HB := n0_; clear n0_; (try clear hb); (try clear hb2); (try clear hk); (try clear hi)))
      (try simp only [Act.put, sA, sB, sC])
      go_cut [28] (fun v28 wc => ∃ (kq : Nat) (x28_103 : Bool), v28 = .bool x28_103 ∧ Aside0 (terracelaw19_SpeedBounds.j5 kq t204 x28_103 = some r) ∧ Aside0 (kq ≤ k) ∧ Aside0 (Below w.heap.size w wc))
      case first =>
        have H := HC104.out
        clear HC104
        by_cases c106 : a0 = 0
        · rw [if_pos c106] at H
          have c106b0 : (a0 == 0) = true := beq_iff_eq.mpr c106
          have c106b1 : (a0 != 0) = false := bne_eq_false_iff_eq.mpr c106
          clear c106
          (first | rw [c106b0] | (simp only [i64_w, i32_w]; rw [c106b0]) | skip)
          have H' := Aside0.mk H
          clear H
          go_wp2
          go_meet
          case rel => exact ⟨_, (true), (by first | rfl | (simp; done) | (simp [*]; done)), H', ⟨by first | omega | exact Nat.le_refl _⟩, ⟨by repeat (first | (with_reducible first | exact HB.out | apply below_alloc | apply pw_below_drewN | apply below_drew1) | exact HB.out)⟩⟩
        · rw [if_neg c106] at H
          have c106b0 : (a0 == 0) = false := beq_eq_false_iff_ne.mpr c106
          have c106b1 : (a0 != 0) = true := bne_iff_ne.mpr c106
          (first | rw [c106b0] | (simp only [i64_w, i32_w]; rw [c106b0]) | skip)
          have H' := Aside0.mk H
          clear H
          go_wp2
          go_meet
          case rel => exact ⟨_, (decide (a1 < a0)), (by first | rfl | (simp; done) | (simp [*]; done)), H', ⟨by first | omega | exact Nat.le_refl _⟩, ⟨by repeat (first | (with_reducible first | exact HB.out | apply below_alloc | apply pw_below_drewN | apply below_drew1) | exact HB.out)⟩⟩
      case rest =>
        clear HC104
        try clear c1
        try clear p1
        try clear q1
        try clear hx1
        try clear c2
        try clear p2
        try clear c4
        try clear p6
        try clear c7
        try clear c7b0
        try clear c8
        try clear c9
        try clear c10
        try clear c11
        try clear c12
        try clear c15
        try clear p17
        try clear q17
        try clear hx17
        try clear c18
        try clear c18b0
        try clear c19
        try clear c20
        try clear c48
        try clear c48b0
        try clear c48b1
        try clear p64
        try clear c70
        try clear c70b0
        try clear c77
        try clear c78
        try clear c78b0
        try clear c78b1
        try clear c81
        try clear c81b0
        try clear c83
        try clear c90
        try clear c97
        try clear c106
        try clear c106b0
        try clear c106b1
        try clear hcz100_0
        try clear hcz100_1
        try clear hcz100_2
        try clear hcz100_3
        try clear hcz84_0
        try clear hcz84_1
        try clear hcz84_2
        try clear hcz84_3
        try clear hcz86_0
        try clear hcz86_1
        try clear hcz86_2
        try clear hcz86_3
        try clear hcz91_0
        try clear hcz91_1
        try clear hcz91_2
        try clear hcz91_3
        try clear hcz93_0
        try clear hcz93_1
        try clear hcz93_2
        try clear hcz93_3
        try clear hcz98_0
        try clear hcz98_1
        try clear hcz98_2
        try clear hcz98_3
        try clear hfz100_0
        try clear hfz100_1
        try clear hfz100_2
        try clear hfz100_3
        try clear hfz84_0
        try clear hfz84_1
        try clear hfz84_2
        try clear hfz84_3
        try clear hfz86_0
        try clear hfz86_1
        try clear hfz86_2
        try clear hfz86_3
        try clear hfz91_0
        try clear hfz91_1
        try clear hfz91_2
        try clear hfz91_3
        try clear hfz93_0
        try clear hfz93_1
        try clear hfz93_2
        try clear hfz93_3
        try clear hfz98_0
        try clear hfz98_1
        try clear hfz98_2
        try clear hfz98_3
        try clear hx170_0
        try clear hx170_1
        try clear hx170_2
        try clear hx170_3
        try clear p170
        try clear p2
        try clear q170
        obtain ⟨kq, x28_103, rfl, HA, HJ103, HB⟩ := hcut
        cases kq with
        | zero => exact absurd HA.out (by simp [terracelaw19_SpeedBounds.j5])
        | succ kj103 =>
          have H := HA.out
          clear HA
          simp only [terracelaw19_SpeedBounds.j5] at H
          by_cases c107 : x28_103 = true
          · subst c107
            have H1 : ((terracelaw19_awake.f kj103).bind fun t205 => (some t205)) = some r := by rw [if_pos rfl] at H; exact H
            clear H
            have H := H1
            clear H1
            replace H := Option.bind_eq_some_iff.mp H
            obtain ⟨t205, A1080, H⟩ := H
            replace H : (some t205) = some r := H
            have A108 := Aside0.mk A1080
            clear A1080
            obtain rfl := Option.some.inj H
            go_wp2_with (first | ((with_reducible refine gate_callee (f := 8) rfl ?_); refine goesL_ (some 29) rfl rfl Try.func8 (by kernel_rfl) rfl #[] rfl (by (try simp only [List.map_toArray, List.map_cons, List.map_nil]); first | done | rfl | (simp only [List.length_drop, List.length_take]; rfl)) ?_; (with_reducible refine (terracelaw19_awake.calls kj103  t205 _ A108.out).mono ?_); rintro e w109 ⟨rfl, hb⟩; refine ⟨_, rfl, ?_⟩; have n0_ := Aside0.mk (below_step (by repeat (first | (with_reducible first | exact HB.out | apply below_alloc | apply pw_below_drewN | apply below_drew1) | exact HB.out)) hb); clear HB; have HB := n0_; clear n0_; (try clear hb); (try clear hb2); (try clear hk); (try clear hi)))
            go_ret
            exact ⟨by first | rfl | (simp [errW_none, errW_some] <;> rfl) | (simp [*, errW_none, errW_some] <;> rfl), by repeat (first | (with_reducible first | exact HB.out | apply below_alloc | apply pw_below_drewN | apply below_drew1) | exact HB.out)⟩
          · replace c107 := Bool.eq_false_iff.mpr c107
            subst c107
            have H1 : (if t204 = 0 then (terracelaw19_SpeedBounds.j6 kj103 true) else (terracelaw19_SpeedBounds.j6 kj103 true)) = some r := by rw [if_neg (show ¬ (false = true) by decide)] at H; exact H
            clear H
            have H := H1
            clear H1
            have HC110 := Aside0.mk H
            clear H
            go_upto_region 6 with (fail)
            go_cut [35] (fun v35 wc => ∃ (kq : Nat) (x35_109 : Bool), v35 = .bool x35_109 ∧ Aside0 (terracelaw19_SpeedBounds.j6 kq x35_109 = some r) ∧ Aside0 (kq ≤ kj103) ∧ Aside0 (Below w.heap.size w wc))
            case first =>
              have H := HC110.out
              clear HC110
              by_cases c111 : t204 = 0
              · rw [if_pos c111] at H
                have c111b0 : (t204 == 0) = true := beq_iff_eq.mpr c111
                have c111b1 : (t204 != 0) = false := bne_eq_false_iff_eq.mpr c111
                clear c111
                (first | rw [c111b0] | (simp only [i64_w, i32_w]; rw [c111b0]) | skip)
                have H' := Aside0.mk H
                clear H
                go_wp2
                go_meet
                case rel => exact ⟨_, (true), (by first | rfl | (simp; done) | (simp [*]; done)), H', ⟨by have := HJ103.out; first | omega | exact Nat.le_refl _⟩, ⟨by repeat (first | (with_reducible first | exact HB.out | apply below_alloc | apply pw_below_drewN | apply below_drew1) | exact HB.out)⟩⟩
              · rw [if_neg c111] at H
                have c111b0 : (t204 == 0) = false := beq_eq_false_iff_ne.mpr c111
                have c111b1 : (t204 != 0) = true := bne_iff_ne.mpr c111
                (first | rw [c111b0] | (simp only [i64_w, i32_w]; rw [c111b0]) | skip)
                have H' := Aside0.mk H
                clear H
                go_wp2
                go_meet
                case rel => exact ⟨_, (true), (by first | rfl | (simp; done) | (simp [*]; done)), H', ⟨by have := HJ103.out; first | omega | exact Nat.le_refl _⟩, ⟨by repeat (first | (with_reducible first | exact HB.out | apply below_alloc | apply pw_below_drewN | apply below_drew1) | exact HB.out)⟩⟩
            case rest =>
              clear HC110
              try clear c1
              try clear p1
              try clear q1
              try clear hx1
              try clear c2
              try clear p2
              try clear c4
              try clear p6
              try clear c7
              try clear c7b0
              try clear c8
              try clear c9
              try clear c10
              try clear c11
              try clear c12
              try clear c15
              try clear p17
              try clear q17
              try clear hx17
              try clear c18
              try clear c18b0
              try clear c19
              try clear c20
              try clear c48
              try clear c48b0
              try clear c48b1
              try clear p64
              try clear c70
              try clear c70b0
              try clear c77
              try clear c78
              try clear c78b0
              try clear c78b1
              try clear c81
              try clear c81b0
              try clear c83
              try clear c90
              try clear c97
              try clear c106
              try clear c106b0
              try clear c106b1
              try clear c107
              try clear c111
              try clear c111b0
              try clear c111b1
              try clear hcz100_0
              try clear hcz100_1
              try clear hcz100_2
              try clear hcz100_3
              try clear hcz84_0
              try clear hcz84_1
              try clear hcz84_2
              try clear hcz84_3
              try clear hcz86_0
              try clear hcz86_1
              try clear hcz86_2
              try clear hcz86_3
              try clear hcz91_0
              try clear hcz91_1
              try clear hcz91_2
              try clear hcz91_3
              try clear hcz93_0
              try clear hcz93_1
              try clear hcz93_2
              try clear hcz93_3
              try clear hcz98_0
              try clear hcz98_1
              try clear hcz98_2
              try clear hcz98_3
              try clear hfz100_0
              try clear hfz100_1
              try clear hfz100_2
              try clear hfz100_3
              try clear hfz84_0
              try clear hfz84_1
              try clear hfz84_2
              try clear hfz84_3
              try clear hfz86_0
              try clear hfz86_1
              try clear hfz86_2
              try clear hfz86_3
              try clear hfz91_0
              try clear hfz91_1
              try clear hfz91_2
              try clear hfz91_3
              try clear hfz93_0
              try clear hfz93_1
              try clear hfz93_2
              try clear hfz93_3
              try clear hfz98_0
              try clear hfz98_1
              try clear hfz98_2
              try clear hfz98_3
              try clear hx170_0
              try clear hx170_1
              try clear hx170_2
              try clear hx170_3
              try clear p1
              try clear p17
              try clear p170
              try clear p2
              try clear p6
              try clear p64
              try clear q1
              try clear q17
              try clear q170
              obtain ⟨kq, x35_109, rfl, HA, HJ109, HB⟩ := hcut
              cases kq with
              | zero => exact absurd HA.out (by simp [terracelaw19_SpeedBounds.j6])
              | succ kj109 =>
                have H := HA.out
                clear HA
                simp only [terracelaw19_SpeedBounds.j6] at H
                by_cases c112 : x35_109 = true
                · subst c112
                  have H1 : (some false) = some r := by rw [if_pos rfl] at H; exact H
                  clear H
                  have H := H1
                  clear H1
                  obtain rfl := Option.some.inj H
                  go_wp2
                  go_ret
                  exact ⟨by first | rfl | (simp [errW_none, errW_some] <;> rfl) | (simp [*, errW_none, errW_some] <;> rfl), by repeat (first | (with_reducible first | exact HB.out | apply below_alloc | apply pw_below_drewN | apply below_drew1) | exact HB.out)⟩
                · replace c112 := Bool.eq_false_iff.mpr c112
                  subst c112
                  have H1 : (none) = some r := by rw [if_neg (show ¬ (false = true) by decide)] at H; exact H
                  clear H
                  have H := H1
                  clear H1
                  exact absurd H (by simp)

def okS38 (x : S38) : Prop := ((Lit.int .i64 x.f0).wf = true) ∧ ((Lit.int .i64 x.f1).wf = true) ∧ ((Lit.int .i64 x.f2).wf = true) ∧ ((Lit.int .u64 x.f3).wf = true)
/-- THE ONE PURE STATEMENT of terracelaw19_SpeedBounds. -/
def terracelaw19_SpeedBounds.Pure : Prop := ∀ (a0 : Int) (a1 : Int) (l2 : List (S38)), (Lit.int .u64 a0).wf = true → (Lit.int .u64 a1).wf = true → l2.length ≤ maxLen → (∀ y_ ∈ l2, okS38 y_) → ∃ k, terracelaw19_SpeedBounds.f k a0 a1 l2 = some true

end Go.Proofs.Ytknkpnommhdhlaa.PSpeedBounds
