-- Written by ext.sh (the session's own program, over the kit's printer) out of the translation. Lean checks it.
import Derived.Test.YtkaglddebpmcmaaPBucketPlaysx0
import Derived.Test.YtkaglddebpmcmaaPBucketPlaysx1
import Derived.Test.YtkaglddebpmcmaaPBucketPlaysx2
namespace Go.Proofs.Ytkaglddebpmcmaa.PBucketPlays
open Go.RowKit Go.Proofs.YtkaglddebpmcmaaW.PrintWords Go.Proofs.YtkaglddebpmcmaaW.PrintLast Go.Proofs.YtkaglddebpmcmaaW.PrintMore
attribute [local go_sem] max2_int min2_int max_two min_two max_three min_three max_four min_four   -- for this text's walks alone
set_option linter.unusedVariables false
set_option linter.unusedSimpArgs false

/-! ### terracelaw20_BucketPlays: function 3 -/
mutual
def terracelaw20_BucketPlays.j0 : Nat → Int → List (S33) → Int → Bool → Int → Int → Int → Option (Bool)
  | 0, _, _, _, _, _, _, _ => none
  | k + 1, x0, x1, x6, x29, x181000, x181001, x181002 => if x29 = true then (some false) else (if x6 = 0 then (terracelaw20_BucketPlays.j1 k x0 x1 false x181000 x181001 x181002) else (terracelaw20_BucketPlays.j1 k x0 x1 true x181000 x181001 x181002))
def terracelaw20_BucketPlays.j1 : Nat → Int → List (S33) → Bool → Int → Int → Int → Option (Bool)
  | 0, _, _, _, _, _, _ => none
  | k + 1, x0, x1, x44, x181000, x181001, x181002 => if x44 = true then (some false) else (terracelaw20_BucketPlays.l0 k x0 0 0 x1 (x1.length : Int) 0 x181000 x181001 x181002)
def terracelaw20_BucketPlays.l0 : Nat → Int → Int → Int → List (S33) → Int → Int → Int → Int → Int → Option (Bool)
  | 0, _, _, _, _, _, _, _, _, _ => none
  | k + 1, x0, x7, x8, x45, x46, x47, x181000, x181001, x181002 => if x47 < x46 then (if 0 ≤ x47 then (if x47 < (x45.length : Int) then ((bucket_Bucket_Fill.f x181000 x181001 x181002 ((rd_T33 x45 x47).f0)).bind fun bt185 => ((terraceref20_Add.f x7 ((rd_T33 x45 x47).f0)).bind fun t188 => (terracelaw20_BucketPlays.l1 k x0 t188 x8 x45 x46 x47 ((rd_T33 x45 x47).f1) (((rd_T33 x45 x47).f1).length : Int) 0 bt185.1 bt185.2.1 bt185.2.2))) else (none)) else (none)) else ((terracelaw20_awake.f k).bind fun t182 => (some t182))
def terracelaw20_BucketPlays.l1 : Nat → Int → Int → Int → List (S33) → Int → Int → List Int → Int → Int → Int → Int → Int → Option (Bool)
  | 0, _, _, _, _, _, _, _, _, _, _, _, _ => none
  | k + 1, x0, x7, x8, x45, x46, x47, x60, x61, x62, x181000, x181001, x181002 => if x62 < x61 then (if 0 ≤ x62 then (if x62 < (x60.length : Int) then ((terraceref20_Spend.f x7 x0 (rd x60 x62)).bind fun bt190 => ((bucket_Bucket_Can.f x181000 x181001 x181002 (rd x60 x62)).bind fun bt192 => (if (bt192.1 != bt190.2) = true then (terracelaw20_BucketPlays.j4 k x0 x8 (rd x60 x62) bt190.1 bt190.2 x45 x46 x47 x60 x61 x62 true bt192.2.1 bt192.2.2.1 bt192.2.2.2) else ((bucket_Bucket_Spend.f bt192.2.1 bt192.2.2.1 bt192.2.2.2 (rd x60 x62)).bind fun bt196 => (terracelaw20_BucketPlays.j4 k x0 x8 (rd x60 x62) bt190.1 bt190.2 x45 x46 x47 x60 x61 x62 (bt196.1 != bt190.2) bt196.2.1 bt196.2.2.1 bt196.2.2.2))))) else (none)) else (none)) else ((bucket_Bucket_Tokens.f x181000 x181001 x181002).bind fun bt200 => (if bt200.1 = x7 then ((bucket_Bucket_End.f bt200.2.1 bt200.2.2.1 bt200.2.2.2).bind fun bt204 => ((terraceref20_End.f x7 x0).bind fun t207 => ((bucket_Bucket_Tokens.f bt204.1 bt204.2.1 bt204.2.2).bind fun bt208 => (if bt208.1 = t207 then ((bucket_Bucket_Spent.f bt208.2.1 bt208.2.2.1 bt208.2.2.2).bind fun bt212 => (if bt212.1 = x8 then (terracelaw20_BucketPlays.l0 k x0 t207 x8 x45 x46 (wrap64 (x47 + 1)) bt212.2.1 bt212.2.2.1 bt212.2.2.2) else (some false))) else (some false))))) else (some false)))
def terracelaw20_BucketPlays.j4 : Nat → Int → Int → Int → Int → Bool → List (S33) → Int → Int → List Int → Int → Int → Bool → Int → Int → Int → Option (Bool)
  | 0, _, _, _, _, _, _, _, _, _, _, _, _, _, _, _ => none
  | k + 1, x0, x8, x12, x13, x14, x45, x46, x47, x60, x61, x62, x84, x181000, x181001, x181002 => if x84 = true then (some false) else (if x14 = true then (terracelaw20_BucketPlays.l1 k x0 x13 (wrap64 (x8 + x12)) x45 x46 x47 x60 x61 (wrap64 (x62 + 1)) x181000 x181001 x181002) else (terracelaw20_BucketPlays.l1 k x0 x13 x8 x45 x46 x47 x60 x61 (wrap64 (x62 + 1)) x181000 x181001 x181002))
def terracelaw20_BucketPlays.j5 : Nat → Int → Bool → Option (Bool)
  | 0, _, _ => none
  | k + 1, x6, x29 => if x29 = true then (if x6 = 11 then ((terracelaw20_awake.f k).bind fun t217 => (some t217)) else (some false)) else (if x6 = 0 then (terracelaw20_BucketPlays.j6 k true) else (terracelaw20_BucketPlays.j6 k true))
def terracelaw20_BucketPlays.j6 : Nat → Bool → Option (Bool)
  | 0, _ => none
  | k + 1, x44 => if x44 = true then (some false) else (none)
end
def terracelaw20_BucketPlays.f (k : Nat) (a0 : Int) (l1 : List (S33)) : Option (Bool) := (terracelaw20_small.f k l1).bind fun t175 => (if t175 = true then (if bucket_New.ok a0 = true then ((bucket_New.f a0).bind fun bt177 => (if a0 < 1 then (terracelaw20_BucketPlays.j0 k a0 l1 bt177.2.2.2 true bt177.1 bt177.2.1 bt177.2.2.1) else (terracelaw20_BucketPlays.j0 k a0 l1 bt177.2.2.2 (decide (a0 > 320)) bt177.1 bt177.2.1 bt177.2.2.1))) else ((bucket_New_no.f a0).bind fun t216 => (if a0 < 1 then (terracelaw20_BucketPlays.j5 k t216 true) else (terracelaw20_BucketPlays.j5 k t216 (decide (a0 > 320)))))) else ((terracelaw20_awake.f k).bind fun t176 => (some t176)))
theorem terracelaw20_BucketPlays.mono_l : ∀ k, (∀ y0 y1 y2 y3 y4 y5 y6, LeO (terracelaw20_BucketPlays.j0 k y0 y1 y2 y3 y4 y5 y6) (terracelaw20_BucketPlays.j0 (k + 1) y0 y1 y2 y3 y4 y5 y6)) ∧ (∀ y0 y1 y2 y3 y4 y5, LeO (terracelaw20_BucketPlays.j1 k y0 y1 y2 y3 y4 y5) (terracelaw20_BucketPlays.j1 (k + 1) y0 y1 y2 y3 y4 y5)) ∧ (∀ y0 y1 y2 y3 y4 y5 y6 y7 y8, LeO (terracelaw20_BucketPlays.l0 k y0 y1 y2 y3 y4 y5 y6 y7 y8) (terracelaw20_BucketPlays.l0 (k + 1) y0 y1 y2 y3 y4 y5 y6 y7 y8)) ∧ (∀ y0 y1 y2 y3 y4 y5 y6 y7 y8 y9 y10 y11, LeO (terracelaw20_BucketPlays.l1 k y0 y1 y2 y3 y4 y5 y6 y7 y8 y9 y10 y11) (terracelaw20_BucketPlays.l1 (k + 1) y0 y1 y2 y3 y4 y5 y6 y7 y8 y9 y10 y11)) ∧ (∀ y0 y1 y2 y3 y4 y5 y6 y7 y8 y9 y10 y11 y12 y13 y14, LeO (terracelaw20_BucketPlays.j4 k y0 y1 y2 y3 y4 y5 y6 y7 y8 y9 y10 y11 y12 y13 y14) (terracelaw20_BucketPlays.j4 (k + 1) y0 y1 y2 y3 y4 y5 y6 y7 y8 y9 y10 y11 y12 y13 y14)) ∧ (∀ y0 y1, LeO (terracelaw20_BucketPlays.j5 k y0 y1) (terracelaw20_BucketPlays.j5 (k + 1) y0 y1)) ∧ (∀ y0, LeO (terracelaw20_BucketPlays.j6 k y0) (terracelaw20_BucketPlays.j6 (k + 1) y0))
  | 0 => ⟨fun _ _ _ _ _ _ _ r h => by simp [terracelaw20_BucketPlays.j0] at h, fun _ _ _ _ _ _ r h => by simp [terracelaw20_BucketPlays.j1] at h, fun _ _ _ _ _ _ _ _ _ r h => by simp [terracelaw20_BucketPlays.l0] at h, fun _ _ _ _ _ _ _ _ _ _ _ _ r h => by simp [terracelaw20_BucketPlays.l1] at h, fun _ _ _ _ _ _ _ _ _ _ _ _ _ _ _ r h => by simp [terracelaw20_BucketPlays.j4] at h, fun _ _ r h => by simp [terracelaw20_BucketPlays.j5] at h, fun _ r h => by simp [terracelaw20_BucketPlays.j6] at h⟩
  | k + 1 => by
    obtain ⟨ih0, ih1, ih2, ih3, ih4, ih5, ih6⟩ := terracelaw20_BucketPlays.mono_l k
    refine ⟨?_, ?_, ?_, ?_, ?_, ?_, ?_⟩
    · intro y0 y1 y2 y3 y4 y5 y6
      unfold terracelaw20_BucketPlays.j0
      repeat' first
      | (with_reducible exact ih0 _ _ _ _ _ _ _)
      | (with_reducible exact ih1 _ _ _ _ _ _)
      | (with_reducible exact ih2 _ _ _ _ _ _ _ _ _)
      | (with_reducible exact ih3 _ _ _ _ _ _ _ _ _ _ _ _)
      | (with_reducible exact ih4 _ _ _ _ _ _ _ _ _ _ _ _ _ _ _)
      | (with_reducible exact ih5 _ _)
      | (with_reducible exact ih6 _)
      | (with_reducible exact terracelaw20_awake.mono _)
      | (with_reducible exact terracelaw20_small.mono _ _)
      | (with_reducible exact LeO.refl _)
      | (with_reducible exact LeO.none _)
      | (with_reducible refine LeO.ite ?_ ?_)
      | (with_reducible refine LeO.bind ?_ (fun _ => ?_))
      | exact ih0 _ _ _ _ _ _ _
      | exact ih1 _ _ _ _ _ _
      | exact ih2 _ _ _ _ _ _ _ _ _
      | exact ih3 _ _ _ _ _ _ _ _ _ _ _ _
      | exact ih4 _ _ _ _ _ _ _ _ _ _ _ _ _ _ _
      | exact ih5 _ _
      | exact ih6 _
      | exact terracelaw20_awake.mono _
      | exact terracelaw20_small.mono _ _
      | exact LeO.none _
      | refine LeO.ite ?_ ?_
      | refine LeO.bind ?_ (fun _ => ?_)
    · intro y0 y1 y2 y3 y4 y5
      unfold terracelaw20_BucketPlays.j1
      repeat' first
      | (with_reducible exact ih0 _ _ _ _ _ _ _)
      | (with_reducible exact ih1 _ _ _ _ _ _)
      | (with_reducible exact ih2 _ _ _ _ _ _ _ _ _)
      | (with_reducible exact ih3 _ _ _ _ _ _ _ _ _ _ _ _)
      | (with_reducible exact ih4 _ _ _ _ _ _ _ _ _ _ _ _ _ _ _)
      | (with_reducible exact ih5 _ _)
      | (with_reducible exact ih6 _)
      | (with_reducible exact terracelaw20_awake.mono _)
      | (with_reducible exact terracelaw20_small.mono _ _)
      | (with_reducible exact LeO.refl _)
      | (with_reducible exact LeO.none _)
      | (with_reducible refine LeO.ite ?_ ?_)
      | (with_reducible refine LeO.bind ?_ (fun _ => ?_))
      | exact ih0 _ _ _ _ _ _ _
      | exact ih1 _ _ _ _ _ _
      | exact ih2 _ _ _ _ _ _ _ _ _
      | exact ih3 _ _ _ _ _ _ _ _ _ _ _ _
      | exact ih4 _ _ _ _ _ _ _ _ _ _ _ _ _ _ _
      | exact ih5 _ _
      | exact ih6 _
      | exact terracelaw20_awake.mono _
      | exact terracelaw20_small.mono _ _
      | exact LeO.none _
      | refine LeO.ite ?_ ?_
      | refine LeO.bind ?_ (fun _ => ?_)
    · intro y0 y1 y2 y3 y4 y5 y6 y7 y8
      unfold terracelaw20_BucketPlays.l0
      repeat' first
      | (with_reducible exact ih0 _ _ _ _ _ _ _)
      | (with_reducible exact ih1 _ _ _ _ _ _)
      | (with_reducible exact ih2 _ _ _ _ _ _ _ _ _)
      | (with_reducible exact ih3 _ _ _ _ _ _ _ _ _ _ _ _)
      | (with_reducible exact ih4 _ _ _ _ _ _ _ _ _ _ _ _ _ _ _)
      | (with_reducible exact ih5 _ _)
      | (with_reducible exact ih6 _)
      | (with_reducible exact terracelaw20_awake.mono _)
      | (with_reducible exact terracelaw20_small.mono _ _)
      | (with_reducible exact LeO.refl _)
      | (with_reducible exact LeO.none _)
      | (with_reducible refine LeO.ite ?_ ?_)
      | (with_reducible refine LeO.bind ?_ (fun _ => ?_))
      | exact ih0 _ _ _ _ _ _ _
      | exact ih1 _ _ _ _ _ _
      | exact ih2 _ _ _ _ _ _ _ _ _
      | exact ih3 _ _ _ _ _ _ _ _ _ _ _ _
      | exact ih4 _ _ _ _ _ _ _ _ _ _ _ _ _ _ _
      | exact ih5 _ _
      | exact ih6 _
      | exact terracelaw20_awake.mono _
      | exact terracelaw20_small.mono _ _
      | exact LeO.none _
      | refine LeO.ite ?_ ?_
      | refine LeO.bind ?_ (fun _ => ?_)
    · intro y0 y1 y2 y3 y4 y5 y6 y7 y8 y9 y10 y11
      unfold terracelaw20_BucketPlays.l1
      repeat' first
      | (with_reducible exact ih0 _ _ _ _ _ _ _)
      | (with_reducible exact ih1 _ _ _ _ _ _)
      | (with_reducible exact ih2 _ _ _ _ _ _ _ _ _)
      | (with_reducible exact ih3 _ _ _ _ _ _ _ _ _ _ _ _)
      | (with_reducible exact ih4 _ _ _ _ _ _ _ _ _ _ _ _ _ _ _)
      | (with_reducible exact ih5 _ _)
      | (with_reducible exact ih6 _)
      | (with_reducible exact terracelaw20_awake.mono _)
      | (with_reducible exact terracelaw20_small.mono _ _)
      | (with_reducible exact LeO.refl _)
      | (with_reducible exact LeO.none _)
      | (with_reducible refine LeO.ite ?_ ?_)
      | (with_reducible refine LeO.bind ?_ (fun _ => ?_))
      | exact ih0 _ _ _ _ _ _ _
      | exact ih1 _ _ _ _ _ _
      | exact ih2 _ _ _ _ _ _ _ _ _
      | exact ih3 _ _ _ _ _ _ _ _ _ _ _ _
      | exact ih4 _ _ _ _ _ _ _ _ _ _ _ _ _ _ _
      | exact ih5 _ _
      | exact ih6 _
      | exact terracelaw20_awake.mono _
      | exact terracelaw20_small.mono _ _
      | exact LeO.none _
      | refine LeO.ite ?_ ?_
      | refine LeO.bind ?_ (fun _ => ?_)
    · intro y0 y1 y2 y3 y4 y5 y6 y7 y8 y9 y10 y11 y12 y13 y14
      unfold terracelaw20_BucketPlays.j4
      repeat' first
      | (with_reducible exact ih0 _ _ _ _ _ _ _)
      | (with_reducible exact ih1 _ _ _ _ _ _)
      | (with_reducible exact ih2 _ _ _ _ _ _ _ _ _)
      | (with_reducible exact ih3 _ _ _ _ _ _ _ _ _ _ _ _)
      | (with_reducible exact ih4 _ _ _ _ _ _ _ _ _ _ _ _ _ _ _)
      | (with_reducible exact ih5 _ _)
      | (with_reducible exact ih6 _)
      | (with_reducible exact terracelaw20_awake.mono _)
      | (with_reducible exact terracelaw20_small.mono _ _)
      | (with_reducible exact LeO.refl _)
      | (with_reducible exact LeO.none _)
      | (with_reducible refine LeO.ite ?_ ?_)
      | (with_reducible refine LeO.bind ?_ (fun _ => ?_))
      | exact ih0 _ _ _ _ _ _ _
      | exact ih1 _ _ _ _ _ _
      | exact ih2 _ _ _ _ _ _ _ _ _
      | exact ih3 _ _ _ _ _ _ _ _ _ _ _ _
      | exact ih4 _ _ _ _ _ _ _ _ _ _ _ _ _ _ _
      | exact ih5 _ _
      | exact ih6 _
      | exact terracelaw20_awake.mono _
      | exact terracelaw20_small.mono _ _
      | exact LeO.none _
      | refine LeO.ite ?_ ?_
      | refine LeO.bind ?_ (fun _ => ?_)
    · intro y0 y1
      unfold terracelaw20_BucketPlays.j5
      repeat' first
      | (with_reducible exact ih0 _ _ _ _ _ _ _)
      | (with_reducible exact ih1 _ _ _ _ _ _)
      | (with_reducible exact ih2 _ _ _ _ _ _ _ _ _)
      | (with_reducible exact ih3 _ _ _ _ _ _ _ _ _ _ _ _)
      | (with_reducible exact ih4 _ _ _ _ _ _ _ _ _ _ _ _ _ _ _)
      | (with_reducible exact ih5 _ _)
      | (with_reducible exact ih6 _)
      | (with_reducible exact terracelaw20_awake.mono _)
      | (with_reducible exact terracelaw20_small.mono _ _)
      | (with_reducible exact LeO.refl _)
      | (with_reducible exact LeO.none _)
      | (with_reducible refine LeO.ite ?_ ?_)
      | (with_reducible refine LeO.bind ?_ (fun _ => ?_))
      | exact ih0 _ _ _ _ _ _ _
      | exact ih1 _ _ _ _ _ _
      | exact ih2 _ _ _ _ _ _ _ _ _
      | exact ih3 _ _ _ _ _ _ _ _ _ _ _ _
      | exact ih4 _ _ _ _ _ _ _ _ _ _ _ _ _ _ _
      | exact ih5 _ _
      | exact ih6 _
      | exact terracelaw20_awake.mono _
      | exact terracelaw20_small.mono _ _
      | exact LeO.none _
      | refine LeO.ite ?_ ?_
      | refine LeO.bind ?_ (fun _ => ?_)
    · intro y0
      unfold terracelaw20_BucketPlays.j6
      repeat' first
      | (with_reducible exact ih0 _ _ _ _ _ _ _)
      | (with_reducible exact ih1 _ _ _ _ _ _)
      | (with_reducible exact ih2 _ _ _ _ _ _ _ _ _)
      | (with_reducible exact ih3 _ _ _ _ _ _ _ _ _ _ _ _)
      | (with_reducible exact ih4 _ _ _ _ _ _ _ _ _ _ _ _ _ _ _)
      | (with_reducible exact ih5 _ _)
      | (with_reducible exact ih6 _)
      | (with_reducible exact terracelaw20_awake.mono _)
      | (with_reducible exact terracelaw20_small.mono _ _)
      | (with_reducible exact LeO.refl _)
      | (with_reducible exact LeO.none _)
      | (with_reducible refine LeO.ite ?_ ?_)
      | (with_reducible refine LeO.bind ?_ (fun _ => ?_))
      | exact ih0 _ _ _ _ _ _ _
      | exact ih1 _ _ _ _ _ _
      | exact ih2 _ _ _ _ _ _ _ _ _
      | exact ih3 _ _ _ _ _ _ _ _ _ _ _ _
      | exact ih4 _ _ _ _ _ _ _ _ _ _ _ _ _ _ _
      | exact ih5 _ _
      | exact ih6 _
      | exact terracelaw20_awake.mono _
      | exact terracelaw20_small.mono _ _
      | exact LeO.none _
      | refine LeO.ite ?_ ?_
      | refine LeO.bind ?_ (fun _ => ?_)
theorem terracelaw20_BucketPlays.mono : ∀ a0 a1 k, LeO (terracelaw20_BucketPlays.f k a0 a1) (terracelaw20_BucketPlays.f (k + 1) a0 a1) := by
  intro a0 a1 k
  obtain ⟨ih0, ih1, ih2, ih3, ih4, ih5, ih6⟩ := terracelaw20_BucketPlays.mono_l k
  unfold terracelaw20_BucketPlays.f
  repeat' first
      | (with_reducible exact ih0 _ _ _ _ _ _ _)
      | (with_reducible exact ih1 _ _ _ _ _ _)
      | (with_reducible exact ih2 _ _ _ _ _ _ _ _ _)
      | (with_reducible exact ih3 _ _ _ _ _ _ _ _ _ _ _ _)
      | (with_reducible exact ih4 _ _ _ _ _ _ _ _ _ _ _ _ _ _ _)
      | (with_reducible exact ih5 _ _)
      | (with_reducible exact ih6 _)
      | (with_reducible exact terracelaw20_awake.mono _)
      | (with_reducible exact terracelaw20_small.mono _ _)
      | (with_reducible exact LeO.refl _)
      | (with_reducible exact LeO.none _)
      | (with_reducible refine LeO.ite ?_ ?_)
      | (with_reducible refine LeO.bind ?_ (fun _ => ?_))
      | exact ih0 _ _ _ _ _ _ _
      | exact ih1 _ _ _ _ _ _
      | exact ih2 _ _ _ _ _ _ _ _ _
      | exact ih3 _ _ _ _ _ _ _ _ _ _ _ _
      | exact ih4 _ _ _ _ _ _ _ _ _ _ _ _ _ _ _
      | exact ih5 _ _
      | exact ih6 _
      | exact terracelaw20_awake.mono _
      | exact terracelaw20_small.mono _ _
      | exact LeO.none _
      | refine LeO.ite ?_ ?_
      | refine LeO.bind ?_ (fun _ => ?_)
set_option maxHeartbeats 8000000 in
set_option maxRecDepth 100000 in
theorem terracelaw20_BucketPlays.calls (k : Nat) (a0 : Int) (A1 : Option Addr) (c1 : Nat) (l1 : List (S33)) (r : Bool) (w : World) (hr1 : Kd.C k33 w A1 l1.length l1) (hc1 : l1.length ≤ c1) (h : terracelaw20_BucketPlays.f k a0 l1 = some r) :
    Calls Try.prog 3 #[.int .i64 a0, .slice A1 l1.length c1] w fun e w' => e = .returned (.bool r) ∧ Below w.heap.size w w' := by
  have hu33 := Try.underlying33
  have hup25 := Try.underlying25
  have HR1 := Aside0.mk hr1
  have HC1 := Aside0.mk hc1
  clear hr1 hc1
  have HB := Aside0.mk (Below.refl w.heap.size w)
  have H : ((terracelaw20_small.f k l1).bind fun t175 => (if t175 = true then (if bucket_New.ok a0 = true then ((bucket_New.f a0).bind fun bt177 => (if a0 < 1 then (terracelaw20_BucketPlays.j0 k a0 l1 bt177.2.2.2 true bt177.1 bt177.2.1 bt177.2.2.1) else (terracelaw20_BucketPlays.j0 k a0 l1 bt177.2.2.2 (decide (a0 > 320)) bt177.1 bt177.2.1 bt177.2.2.1))) else ((bucket_New_no.f a0).bind fun t216 => (if a0 < 1 then (terracelaw20_BucketPlays.j5 k t216 true) else (terracelaw20_BucketPlays.j5 k t216 (decide (a0 > 320)))))) else ((terracelaw20_awake.f k).bind fun t176 => (some t176)))) = some r := h
  clear h
  replace H := Option.bind_eq_some_iff.mp H
  obtain ⟨t175, A30, H⟩ := H
  replace H : (if t175 = true then (if bucket_New.ok a0 = true then ((bucket_New.f a0).bind fun bt177 => (if a0 < 1 then (terracelaw20_BucketPlays.j0 k a0 l1 bt177.2.2.2 true bt177.1 bt177.2.1 bt177.2.2.1) else (terracelaw20_BucketPlays.j0 k a0 l1 bt177.2.2.2 (decide (a0 > 320)) bt177.1 bt177.2.1 bt177.2.2.1))) else ((bucket_New_no.f a0).bind fun t216 => (if a0 < 1 then (terracelaw20_BucketPlays.j5 k t216 true) else (terracelaw20_BucketPlays.j5 k t216 (decide (a0 > 320)))))) else ((terracelaw20_awake.f k).bind fun t176 => (some t176))) = some r := H
  have A3 := Aside0.mk A30
  clear A30
  by_cases c4 : t175 = true
  · subst c4
    have H1 : (if bucket_New.ok a0 = true then ((bucket_New.f a0).bind fun bt177 => (if a0 < 1 then (terracelaw20_BucketPlays.j0 k a0 l1 bt177.2.2.2 true bt177.1 bt177.2.1 bt177.2.2.1) else (terracelaw20_BucketPlays.j0 k a0 l1 bt177.2.2.2 (decide (a0 > 320)) bt177.1 bt177.2.1 bt177.2.2.1))) else ((bucket_New_no.f a0).bind fun t216 => (if a0 < 1 then (terracelaw20_BucketPlays.j5 k t216 true) else (terracelaw20_BucketPlays.j5 k t216 (decide (a0 > 320)))))) = some r := by rw [if_pos rfl] at H; exact H
    clear H
    have H := H1
    clear H1
    by_cases c5 : bucket_New.ok a0 = true
    · rw [if_pos c5] at H
      have c5b0 : bucket_New.ok a0 = true := c5
      clear c5
      replace H := Option.bind_eq_some_iff.mp H
      obtain ⟨⟨t177, t178, t179, t181⟩, A60, H⟩ := H
      replace H : (if a0 < 1 then (terracelaw20_BucketPlays.j0 k a0 l1 t181 true t177 t178 t179) else (terracelaw20_BucketPlays.j0 k a0 l1 t181 (decide (a0 > 320)) t177 t178 t179)) = some r := H
      have A6 := Aside0.mk A60
      clear A60
      have HC7 := Aside0.mk H
      clear H
      go_enter Try.func3, Try.ntmps3
      go_upto_region 4 with (first | ((with_reducible refine gate_callee (f := 8) rfl ?_); refine goesL_ (some 16) rfl rfl Try.func8 (by kernel_rfl) rfl #[.slice A1 l1.length c1] rfl (by (try simp only [List.map_toArray, List.map_cons, List.map_nil]); first | done | rfl | (simp only [List.length_drop, List.length_take]; rfl)) ?_; (with_reducible refine (terracelaw20_small.calls k _ _ l1 true _ ?side1 ?side2 A3.out).mono ?_); (case side1 => repeat (first | exact HR1.out | (with_reducible refine Kd.C_alloc ?_ _) | (with_reducible refine Kd.C_drewN ?_ _) | (with_reducible refine Kd.C_drew ?_))); (case side2 => exact HC1.out); rintro e w8 ⟨rfl, hb⟩; refine ⟨_, rfl, ?_⟩; have n0_ := Aside0.mk (below_step (by repeat (first | (with_reducible first | exact HB.out | apply below_alloc | apply pw_below_drewN | apply below_drew1) | exact HB.out)) hb); clear HB; have HB := n0_; clear n0_; (try clear hb); (try clear hb2); (try clear hk); (try clear hi)) | ((with_reducible refine gate_callee (f := 10) rfl ?_); refine goesL_ (some 21) rfl rfl Try.func10 (by kernel_rfl) rfl #[.int .i64 a0] rfl (by (try simp only [List.map_toArray, List.map_cons, List.map_nil]); first | done | rfl | (simp only [List.length_drop, List.length_take]; rfl)) ?_; (with_reducible refine (bucket_New.calls a0 t177 t178 t179 t181 _ A6.out).mono ?_); rintro e w9 ⟨g180, rfl, hi0, hb2⟩; refine ⟨_, rfl, ?_⟩; have hi : IsS62 w w9 g180 t177 t178 t179 := ⟨hi0.1, Nat.le_trans (below_size (by repeat (first | (with_reducible first | exact HB.out | apply below_alloc | apply pw_below_drewN | apply below_drew1) | exact HB.out))) hi0.2⟩; have hb := below_step (by repeat (first | (with_reducible first | exact HB.out | apply below_alloc | apply pw_below_drewN | apply below_drew1) | exact HB.out)) hb2; have n0_ := Aside0.mk (hb); have n1_ := Aside0.mk (hi); clear HB; have HB := n0_; have HI180 := n1_; clear n0_ n1_; (try clear hb); (try clear hb2); (try clear hk); (try clear hi)))
      (try simp only [Act.put, List.setIfInBounds_toArray, List.set_cons_zero, List.set_cons_succ])
      go_cut [29] (fun v29 wc => ∃ (kq : Nat) (x29_6 : Bool), v29 = .bool x29_6 ∧ Aside0 (terracelaw20_BucketPlays.j0 kq a0 l1 t181 x29_6 t177 t178 t179 = some r) ∧ Aside0 (kq ≤ k) ∧ Aside0 (IsS62 w wc g180 t177 t178 t179) ∧ Aside0 (Below w.heap.size w wc))
      case first =>
        have H := HC7.out
        clear HC7
        by_cases c10 : a0 < 1
        · rw [if_pos c10] at H
          have c10b0 : decide (a0 < 1) = true := decide_eq_true c10
          clear c10
          (first | rw [c10b0] | (simp only [i64_w, i32_w]; rw [c10b0]) | skip)
          have H' := Aside0.mk H
          clear H
          go_wp2
          go_meet
          case rel => exact ⟨_, (true), (by first | rfl | (simp; done) | (simp [*]; done)), H', ⟨by first | omega | exact Nat.le_refl _⟩, ⟨by repeat (first | (with_reducible first | exact HI180.out | apply IsS62.alloc | apply IsS62.drewN | apply IsS62.drew | apply IsS62.set_0 | apply IsS62.set_1 | apply IsS62.set_2) | exact HI180.out)⟩, ⟨by repeat (first | (with_reducible first | exact HB.out | apply below_alloc | apply pw_below_drewN | apply below_drew1 | refine below_set ?_ (IsS62.ge HI180.out)) | exact HB.out)⟩⟩
        · rw [if_neg c10] at H
          have c10b0 : decide (a0 < 1) = false := decide_eq_false c10
          clear c10
          (first | rw [c10b0] | (simp only [i64_w, i32_w]; rw [c10b0]) | skip)
          have H' := Aside0.mk H
          clear H
          go_wp2
          go_meet
          case rel => exact ⟨_, (decide (a0 > 320)), (by first | rfl | (simp; done) | (simp [*]; done)), H', ⟨by first | omega | exact Nat.le_refl _⟩, ⟨by repeat (first | (with_reducible first | exact HI180.out | apply IsS62.alloc | apply IsS62.drewN | apply IsS62.drew | apply IsS62.set_0 | apply IsS62.set_1 | apply IsS62.set_2) | exact HI180.out)⟩, ⟨by repeat (first | (with_reducible first | exact HB.out | apply below_alloc | apply pw_below_drewN | apply below_drew1 | refine below_set ?_ (IsS62.ge HI180.out)) | exact HB.out)⟩⟩
      case rest =>
        clear HC7
        try clear c1
        try clear p2
        try clear c3
        try clear c4
        try clear c5
        try clear c5b0
        try clear c8
        try clear c10
        try clear c10b0
        obtain ⟨kq, x29_6, rfl, HA, HJ6, HI180, HB⟩ := hcut
        cases kq with
        | zero => exact absurd HA.out (by simp [terracelaw20_BucketPlays.j0])
        | succ kj6 =>
          have H := HA.out
          clear HA
          simp only [terracelaw20_BucketPlays.j0] at H
          by_cases c11 : x29_6 = true
          · subst c11
            have H1 : (some false) = some r := by rw [if_pos rfl] at H; exact H
            clear H
            have H := H1
            clear H1
            obtain rfl := Option.some.inj H
            go_wp2
            go_ret
            exact ⟨by first | rfl | (simp [errW_none, errW_some] <;> rfl) | (simp [*, errW_none, errW_some] <;> rfl), by repeat (first | (with_reducible first | exact HB.out | apply below_alloc | apply pw_below_drewN | apply below_drew1 | refine below_set ?_ (IsS62.ge HI180.out)) | exact HB.out)⟩
          · replace c11 := Bool.eq_false_iff.mpr c11
            subst c11
            have H1 : (if t181 = 0 then (terracelaw20_BucketPlays.j1 kj6 a0 l1 false t177 t178 t179) else (terracelaw20_BucketPlays.j1 kj6 a0 l1 true t177 t178 t179)) = some r := by rw [if_neg (show ¬ (false = true) by decide)] at H; exact H
            clear H
            have H := H1
            clear H1
            have HC12 := Aside0.mk H
            clear H
            go_upto_region 6 with (fail)
            go_cut [44] (fun v44 wc => ∃ (kq : Nat) (x44_11 : Bool), v44 = .bool x44_11 ∧ Aside0 (terracelaw20_BucketPlays.j1 kq a0 l1 x44_11 t177 t178 t179 = some r) ∧ Aside0 (kq ≤ kj6) ∧ Aside0 (IsS62 w wc g180 t177 t178 t179) ∧ Aside0 (Below w.heap.size w wc))
            case first =>
              have H := HC12.out
              clear HC12
              by_cases c13 : t181 = 0
              · rw [if_pos c13] at H
                have c13b0 : (t181 == 0) = true := beq_iff_eq.mpr c13
                have c13b1 : (t181 != 0) = false := bne_eq_false_iff_eq.mpr c13
                clear c13
                (first | rw [c13b0] | (simp only [i64_w, i32_w]; rw [c13b0]) | skip)
                have H' := Aside0.mk H
                clear H
                go_wp2
                go_meet
                case rel => exact ⟨_, (false), (by first | rfl | (simp; done) | (simp [*]; done)), H', ⟨by have := HJ6.out; first | omega | exact Nat.le_refl _⟩, ⟨by repeat (first | (with_reducible first | exact HI180.out | apply IsS62.alloc | apply IsS62.drewN | apply IsS62.drew | apply IsS62.set_0 | apply IsS62.set_1 | apply IsS62.set_2) | exact HI180.out)⟩, ⟨by repeat (first | (with_reducible first | exact HB.out | apply below_alloc | apply pw_below_drewN | apply below_drew1 | refine below_set ?_ (IsS62.ge HI180.out)) | exact HB.out)⟩⟩
              · rw [if_neg c13] at H
                have c13b0 : (t181 == 0) = false := beq_eq_false_iff_ne.mpr c13
                have c13b1 : (t181 != 0) = true := bne_iff_ne.mpr c13
                (first | rw [c13b0] | (simp only [i64_w, i32_w]; rw [c13b0]) | skip)
                have H' := Aside0.mk H
                clear H
                go_wp2
                go_meet
                case rel => exact ⟨_, (true), (by first | rfl | (simp; done) | (simp [*]; done)), H', ⟨by have := HJ6.out; first | omega | exact Nat.le_refl _⟩, ⟨by repeat (first | (with_reducible first | exact HI180.out | apply IsS62.alloc | apply IsS62.drewN | apply IsS62.drew | apply IsS62.set_0 | apply IsS62.set_1 | apply IsS62.set_2) | exact HI180.out)⟩, ⟨by repeat (first | (with_reducible first | exact HB.out | apply below_alloc | apply pw_below_drewN | apply below_drew1 | refine below_set ?_ (IsS62.ge HI180.out)) | exact HB.out)⟩⟩
            case rest =>
              clear HC12
              try clear c1
              try clear p2
              try clear c3
              try clear c4
              try clear c5
              try clear c5b0
              try clear c8
              try clear c10
              try clear c10b0
              try clear c11
              try clear c13
              try clear c13b0
              try clear c13b1
              try clear p2
              obtain ⟨kq, x44_11, rfl, HA, HJ11, HI180, HB⟩ := hcut
              cases kq with
              | zero => exact absurd HA.out (by simp [terracelaw20_BucketPlays.j1])
              | succ kj11 =>
                have H := HA.out
                clear HA
                simp only [terracelaw20_BucketPlays.j1] at H
                by_cases c14 : x44_11 = true
                · subst c14
                  have H1 : (some false) = some r := by rw [if_pos rfl] at H; exact H
                  clear H
                  have H := H1
                  clear H1
                  obtain rfl := Option.some.inj H
                  go_wp2
                  go_ret
                  exact ⟨by first | rfl | (simp [errW_none, errW_some] <;> rfl) | (simp [*, errW_none, errW_some] <;> rfl), by repeat (first | (with_reducible first | exact HB.out | apply below_alloc | apply pw_below_drewN | apply below_drew1 | refine below_set ?_ (IsS62.ge HI180.out)) | exact HB.out)⟩
                · replace c14 := Bool.eq_false_iff.mpr c14
                  subst c14
                  have H1 : (terracelaw20_BucketPlays.l0 kj11 a0 0 0 l1 (l1.length : Int) 0 t177 t178 t179) = some r := by rw [if_neg (show ¬ (false = true) by decide)] at H; exact H
                  clear H
                  have H := H1
                  clear H1
                  have H' := Aside0.mk H
                  clear H
                  go_wp2
                  go_loopg [7, 8, 47] kj11 (fun kq v7 v8 v47 w' => ∃ (x7_3 : Int) (x8_3 : Int) (x47_3 : Int) (x181000_3 : Int) (x181001_3 : Int) (x181002_3 : Int), v7 = .int .u64 x7_3 ∧ v8 = .int .i64 x8_3 ∧ v47 = .int .i64 x47_3 ∧ Aside0 (terracelaw20_BucketPlays.l0 kq a0 x7_3 x8_3 l1 (l1.length : Int) x47_3 x181000_3 x181001_3 x181002_3 = some r) ∧ Aside0 (kq ≤ kj11) ∧ Aside0 (IsS62 w w' g180 x181000_3 x181001_3 x181002_3) ∧ Aside0 (Below w.heap.size w w'))
                  case atStart => exact ⟨(0), (0), (0), (t177), (t178), (t179), (by first | rfl | (simp; done) | (simp [*]; done)), (by first | rfl | (simp; done) | (simp [*]; done)), (by first | rfl | (simp; done) | (simp [*]; done)), H', ⟨Nat.le_refl _⟩, ⟨by repeat (first | (with_reducible first | exact HI180.out | apply IsS62.alloc | apply IsS62.drewN | apply IsS62.drew | apply IsS62.set_0 | apply IsS62.set_1 | apply IsS62.set_2) | exact HI180.out)⟩, ⟨by repeat (first | (with_reducible first | exact HB.out | apply below_alloc | apply pw_below_drewN | apply below_drew1 | refine below_set ?_ (IsS62.ge HI180.out)) | exact HB.out)⟩⟩
                  case round =>
                    clear H'
                    try clear c1
                    try clear p2
                    try clear c3
                    try clear c4
                    try clear c5
                    try clear c5b0
                    try clear c8
                    try clear c10
                    try clear c10b0
                    try clear c11
                    try clear c13
                    try clear c13b0
                    try clear c13b1
                    try clear c14
                    try clear p2
                    obtain ⟨x7_3, x8_3, x47_3, x181000_3, x181001_3, x181002_3, rfl, rfl, rfl, HA, HK3, HI180, HB⟩ := hrel
                    cases gk with
                    | zero => exact absurd HA.out (by simp [terracelaw20_BucketPlays.l0])
                    | succ k3 =>
                      have H := HA.out
                      clear HA
                      simp only [terracelaw20_BucketPlays.l0] at H
                      by_cases c15 : x47_3 < (l1.length : Int)
                      · rw [if_pos c15] at H
                        have c15b0 : decide (x47_3 < (l1.length : Int)) = true := decide_eq_true c15
                        clear c15
                        by_cases c16 : 0 ≤ x47_3
                        · rw [if_pos c16] at H
                          have c16b0 : decide (0 ≤ x47_3) = true := decide_eq_true c16
                          clear c16
                          by_cases c17 : x47_3 < (l1.length : Int)
                          · rw [if_pos c17] at H
                            have c17b0 : decide (x47_3 < (l1.length : Int)) = true := decide_eq_true c17
                            clear c17
                            replace H := Option.bind_eq_some_iff.mp H
                            obtain ⟨⟨t185, t186, t187⟩, A180, H⟩ := H
                            replace H : ((terraceref20_Add.f x7_3 ((rd_T33 l1 x47_3).f0)).bind fun t188 => (terracelaw20_BucketPlays.l1 k3 a0 t188 x8_3 l1 (l1.length : Int) x47_3 ((rd_T33 l1 x47_3).f1) (((rd_T33 l1 x47_3).f1).length : Int) 0 t185 t186 t187)) = some r := H
                            have A18 := Aside0.mk A180
                            clear A180
                            replace H := Option.bind_eq_some_iff.mp H
                            obtain ⟨t188, A190, H⟩ := H
                            replace H : (terracelaw20_BucketPlays.l1 k3 a0 t188 x8_3 l1 (l1.length : Int) x47_3 ((rd_T33 l1 x47_3).f1) (((rd_T33 l1 x47_3).f1).length : Int) 0 t185 t186 t187) = some r := H
                            have A19 := Aside0.mk A190
                            clear A190
                            have H' := Aside0.mk H
                            clear H
                            have p183 : 0 ≤ (x47_3 : Int) := of_decide_eq_true (by first | (with_reducible assumption) | assumption)
                            have q183 : x47_3 < (l1.length : Int) := of_decide_eq_true (by first | (with_reducible assumption) | assumption)
                            obtain ⟨ad183, A183_1, c183_1, e183, hx183_0, hx183_1, hl183_1, hi183_1⟩ := at_T33 HR1.out x47_3 p183 q183
                            cases e183
                            replace hx183_0 := (HB.out.cell (World.block_lt_of_cell? w _ hx183_0)).trans hx183_0
                            replace hx183_1 := (HB.out.cell (World.block_lt_of_cell? w _ hx183_1)).trans hx183_1
                            have HR183_1 := Aside0.mk hi183_1
                            have HC183_1 := Aside0.mk hl183_1
                            clear hi183_1 hl183_1
                            replace p183 := eq_true p183
                            replace q183 := eq_true q183
                            go_wp2_with (first | ((with_reducible refine gate_dst (N := 10) rfl ?_); refine box_event ?hg (N := 10) ?hd (cs := #[.int .u64 0, .slice none 0 0]) (t := 33) ?hr ?_; (case hd => rfl); (case hg => rfl); (case hr => first | (go_simp; done) | (go_simp; rfl)); intro gb184 hg w20 hbox hb; have n0_ := Aside0.mk (IsS62.below (by repeat (first | (with_reducible first | exact HI180.out | apply IsS62.alloc | apply IsS62.drewN | apply IsS62.drew | apply IsS62.set_0 | apply IsS62.set_1 | apply IsS62.set_2) | exact HI180.out)) hb); have n1_ := Aside0.mk (below_step (by repeat (first | (with_reducible first | exact HB.out | apply below_alloc | apply pw_below_drewN | apply below_drew1 | refine below_set ?_ (IsS62.ge HI180.out)) | exact HB.out)) hb); have n2_ := Aside0.mk (hbox); have n3_ := Aside0.mk ((by rw [hg]; exact (below_size (by repeat (first | (with_reducible first | exact HB.out | apply below_alloc | apply pw_below_drewN | apply below_drew1 | refine below_set ?_ (IsS62.ge HI180.out)) | exact HB.out))) : w.heap.size ≤ gb184)); have n4_ := Aside0.mk ((by rw [hg]; exact (below_size (by repeat (first | (with_reducible first | exact HB.out | apply below_alloc | apply pw_below_drewN | apply below_drew1 | refine below_set ?_ (IsS62.ge HI180.out)) | exact HB.out))) : w.heap.size ≤ gb184)); have n5_ := Aside0.mk ((by rw [hg]; exact Nat.ne_of_lt (IsS62.lt (show IsS62 w _ g180 x181000_3 x181001_3 x181002_3 from by repeat (first | (with_reducible first | exact HI180.out | apply IsS62.alloc | apply IsS62.drewN | apply IsS62.drew | apply IsS62.set_0 | apply IsS62.set_1 | apply IsS62.set_2) | exact HI180.out))) : g180 ≠ gb184)); have n6_ := Aside0.mk ((by rw [hg]; exact Nat.ne_of_gt (IsS62.lt (show IsS62 w _ g180 x181000_3 x181001_3 x181002_3 from by repeat (first | (with_reducible first | exact HI180.out | apply IsS62.alloc | apply IsS62.drewN | apply IsS62.drew | apply IsS62.set_0 | apply IsS62.set_1 | apply IsS62.set_2) | exact HI180.out))) : gb184 ≠ g180)); clear HI180; clear HB; have HI180 := n0_; have HB := n1_; have BK184 := n2_; have GW184 := n3_; have GE184 := n4_; have NB180_184 := n5_; have NB184_180 := n6_; clear n0_ n1_ n2_ n3_ n4_ n5_ n6_; clear hb hbox hg; have hnb21 := NB184_180.out; have hnc21 := NB180_184.out; have hcz22_0 : w20.cell? ⟨gb184, 0, none⟩ = some (.int .u64 0) := (blk_cell BK184.out 0).trans rfl; have hcz22_1 : w20.cell? ⟨gb184, 1, none⟩ = some (.slice none 0 0) := (blk_cell BK184.out 1).trans rfl; have hfz22_0 := blk_frozen BK184.out 0; have hfz22_1 := blk_frozen BK184.out 1) | ((with_reducible refine gate_callee (f := 11) rfl ?_); refine goesL_ (some 54) rfl rfl Try.func11 (by kernel_rfl) rfl #[.pointer (some ⟨g180, 0, none⟩), .int .u64 ((rd_T33 l1 x47_3).f0)] rfl (by (try simp only [List.map_toArray, List.map_cons, List.map_nil]); first | done | rfl | (simp only [List.length_drop, List.length_take]; rfl)) ?_; (with_reducible refine (bucket_Bucket_Fill.calls g180 x181000_3 x181001_3 x181002_3 ((rd_T33 l1 x47_3).f0) t185 t186 t187 w _ ?side1 ?side2 A18.out).mono ?_); (case side1 => repeat (first | (with_reducible first | exact HI180.out | apply IsS62.alloc | apply IsS62.drewN | apply IsS62.drew | apply IsS62.set_0 | apply IsS62.set_1 | apply IsS62.set_2 | refine IsS62.far ?_ NB180_184.out _) | exact HI180.out)); (case side2 => repeat (first | (with_reducible first | exact HB.out | apply below_alloc | apply pw_below_drewN | apply below_drew1 | refine below_set ?_ (IsS62.ge HI180.out) | refine below_set ?_ GE184.out) | exact HB.out)); rintro e w23 ⟨rfl, hi, hb, hk⟩; refine ⟨_, rfl, ?_⟩; have n0_ := Aside0.mk (KeepBut.blk hk (g' := gb184) (o := .cells #[.int .u64 ((rd_T33 l1 x47_3).f0), .slice A183_1 ((rd_T33 l1 x47_3).f1).length c183_1] 33 (0, 0)) (by (with_reducible repeat (first | refine blk_drewN ?_ _ | refine blk_drew ?_ | refine blk_alloc ?_ _)); refine blk_put (cs := #[.int .u64 ((rd_T33 l1 x47_3).f0), .slice none 0 0]) ?_ 1 _ rfl; (with_reducible repeat (first | refine blk_drewN ?_ _ | refine blk_drew ?_ | refine blk_alloc ?_ _)); refine blk_put (cs := #[.int .u64 0, .slice none 0 0]) ?_ 0 _ rfl; (with_reducible repeat (first | refine blk_drewN ?_ _ | refine blk_drew ?_ | refine blk_alloc ?_ _)); exact BK184.out) NB184_180.out (by simp)); have n1_ := Aside0.mk (hb); have n2_ := Aside0.mk (hi); clear BK184; clear HB; clear HI180; have BK184 := n0_; have HB := n1_; have HI180 := n2_; clear n0_ n1_ n2_; (try clear hb); (try clear hb2); (try clear hk); (try clear hi); have hcz24_0 : w23.cell? ⟨gb184, 0, none⟩ = some (.int .u64 ((rd_T33 l1 x47_3).f0)) := (blk_cell BK184.out 0).trans rfl; have hcz24_1 : w23.cell? ⟨gb184, 1, none⟩ = some (.slice A183_1 ((rd_T33 l1 x47_3).f1).length c183_1) := (blk_cell BK184.out 1).trans rfl; have hfz24_0 := blk_frozen BK184.out 0; have hfz24_1 := blk_frozen BK184.out 1) | ((with_reducible refine gate_callee (f := 12) rfl ?_); refine goesL_ (some 58) rfl rfl Try.func12 (by kernel_rfl) rfl #[.int .u64 x7_3, .int .u64 ((rd_T33 l1 x47_3).f0)] rfl (by (try simp only [List.map_toArray, List.map_cons, List.map_nil]); first | done | rfl | (simp only [List.length_drop, List.length_take]; rfl)) ?_; (with_reducible refine (terraceref20_Add.calls x7_3 ((rd_T33 l1 x47_3).f0) t188 _ A19.out).mono ?_); rintro e w' ⟨rfl, ⟨nd, rfl⟩⟩; refine ⟨_, rfl, ?_⟩))
                            go_loopg [7, 8, 62] k3 (fun kq v7 v8 v62 w' => ∃ (x7_4 : Int) (x8_4 : Int) (x62_4 : Int) (x181000_4 : Int) (x181001_4 : Int) (x181002_4 : Int), v7 = .int .u64 x7_4 ∧ v8 = .int .i64 x8_4 ∧ v62 = .int .i64 x62_4 ∧ Aside0 (terracelaw20_BucketPlays.l1 kq a0 x7_4 x8_4 l1 (l1.length : Int) x47_3 ((rd_T33 l1 x47_3).f1) (((rd_T33 l1 x47_3).f1).length : Int) x62_4 x181000_4 x181001_4 x181002_4 = some r) ∧ Aside0 (kq ≤ k3) ∧ Aside0 (w'.heap[gb184]? = some (.cells #[.int .u64 ((rd_T33 l1 x47_3).f0), (.slice A183_1 ((rd_T33 l1 x47_3).f1).length c183_1)] 33 (0, 0))) ∧ Aside0 (IsS62 w w' g180 x181000_4 x181001_4 x181002_4) ∧ Aside0 (Below w.heap.size w w'))
                            case atStart => exact ⟨(t188), (x8_3), (0), (t185), (t186), (t187), (by first | rfl | (simp; done) | (simp [*]; done)), (by first | rfl | (simp; done) | (simp [*]; done)), (by first | rfl | (simp; done) | (simp [*]; done)), H', ⟨Nat.le_refl _⟩, ⟨by (with_reducible repeat (first | refine blk_drewN ?_ _ | refine blk_drew ?_ | refine blk_alloc ?_ _)); exact BK184.out⟩, ⟨by repeat (first | (with_reducible first | exact HI180.out | apply IsS62.alloc | apply IsS62.drewN | apply IsS62.drew | apply IsS62.set_0 | apply IsS62.set_1 | apply IsS62.set_2 | refine IsS62.far ?_ NB180_184.out _) | exact HI180.out)⟩, ⟨by repeat (first | (with_reducible first | exact HB.out | apply below_alloc | apply pw_below_drewN | apply below_drew1 | refine below_set ?_ (IsS62.ge HI180.out) | refine below_set ?_ GE184.out) | exact HB.out)⟩⟩
                            case round =>
                              clear H'
                              try clear c1
                              try clear p1
                              try clear q1
                              try clear hx1
                              try clear c2
                              try clear p2
                              try clear c3
                              try clear c4
                              try clear c5
                              try clear c5b0
                              try clear c8
                              try clear c10
                              try clear c10b0
                              try clear c11
                              try clear c12
                              try clear c13
                              try clear c13b0
                              try clear c13b1
                              try clear c14
                              try clear c15
                              try clear c15b0
                              try clear c16
                              try clear c16b0
                              try clear c17
                              try clear c17b0
                              try clear c18
                              try clear p18
                              try clear q18
                              try clear hx18
                              try clear c21
                              try clear hcz22_0
                              try clear hcz22_1
                              try clear hcz24_0
                              try clear hcz24_1
                              try clear hfz22_0
                              try clear hfz22_1
                              try clear hfz24_0
                              try clear hfz24_1
                              try clear hx183_0
                              try clear hx183_1
                              try clear p183
                              try clear p2
                              try clear q183
                              obtain ⟨x7_4, x8_4, x62_4, x181000_4, x181001_4, x181002_4, rfl, rfl, rfl, HA, HK4, BK184, HI180, HB⟩ := hrel
                              cases gk with
                              | zero => exact absurd HA.out (by simp [terracelaw20_BucketPlays.l1])
                              | succ k4 =>
                                have H := HA.out
                                clear HA
                                simp only [terracelaw20_BucketPlays.l1] at H
                                by_cases c25 : x62_4 < (((rd_T33 l1 x47_3).f1).length : Int)
                                · rw [if_pos c25] at H
                                  have c25b0 : decide (x62_4 < (((rd_T33 l1 x47_3).f1).length : Int)) = true := decide_eq_true c25
                                  clear c25
                                  by_cases c26 : 0 ≤ x62_4
                                  · rw [if_pos c26] at H
                                    have c26b0 : decide (0 ≤ x62_4) = true := decide_eq_true c26
                                    clear c26
                                    by_cases c27 : x62_4 < (((rd_T33 l1 x47_3).f1).length : Int)
                                    · rw [if_pos c27] at H
                                      have c27b0 : decide (x62_4 < (((rd_T33 l1 x47_3).f1).length : Int)) = true := decide_eq_true c27
                                      clear c27
                                      replace H := Option.bind_eq_some_iff.mp H
                                      obtain ⟨⟨t190, t191⟩, A280, H⟩ := H
                                      replace H : ((bucket_Bucket_Can.f x181000_4 x181001_4 x181002_4 (rd ((rd_T33 l1 x47_3).f1) x62_4)).bind fun bt192 => (if (bt192.1 != t191) = true then (terracelaw20_BucketPlays.j4 k4 a0 x8_4 (rd ((rd_T33 l1 x47_3).f1) x62_4) t190 t191 l1 (l1.length : Int) x47_3 ((rd_T33 l1 x47_3).f1) (((rd_T33 l1 x47_3).f1).length : Int) x62_4 true bt192.2.1 bt192.2.2.1 bt192.2.2.2) else ((bucket_Bucket_Spend.f bt192.2.1 bt192.2.2.1 bt192.2.2.2 (rd ((rd_T33 l1 x47_3).f1) x62_4)).bind fun bt196 => (terracelaw20_BucketPlays.j4 k4 a0 x8_4 (rd ((rd_T33 l1 x47_3).f1) x62_4) t190 t191 l1 (l1.length : Int) x47_3 ((rd_T33 l1 x47_3).f1) (((rd_T33 l1 x47_3).f1).length : Int) x62_4 (bt196.1 != t191) bt196.2.1 bt196.2.2.1 bt196.2.2.2)))) = some r := H
                                      have A28 := Aside0.mk A280
                                      clear A280
                                      have HC29 := Aside0.mk H
                                      clear H
                                      have p189 : 0 ≤ (x62_4 : Int) := of_decide_eq_true (by first | (with_reducible assumption) | assumption)
                                      have q189 : x62_4 < (((rd_T33 l1 x47_3).f1).length : Int) := of_decide_eq_true (by first | (with_reducible assumption) | assumption)
                                      obtain ⟨ad189, e189, hx189_0⟩ := Kd.at_int HR183_1.out x62_4 p189 q189
                                      cases e189
                                      replace hx189_0 := (HB.out.cell (World.block_lt_of_cell? w _ hx189_0)).trans hx189_0
                                      replace p189 := eq_true p189
                                      replace q189 := eq_true q189
                                      go_upto_region 18 with (first | ((with_reducible refine gate_callee (f := 13) rfl ?_); refine goesL_ (some 70) rfl rfl Try.func13 (by kernel_rfl) rfl #[.int .u64 x7_4, .int .i64 a0, .int .i64 (rd ((rd_T33 l1 x47_3).f1) x62_4)] rfl (by (try simp only [List.map_toArray, List.map_cons, List.map_nil]); first | done | rfl | (simp only [List.length_drop, List.length_take]; rfl)) ?_; (with_reducible refine (terraceref20_Spend.calls x7_4 a0 (rd ((rd_T33 l1 x47_3).f1) x62_4) t190 t191 _ A28.out).mono ?_); rintro e w' ⟨rfl, ⟨nd, rfl⟩⟩; refine ⟨_, rfl, ?_⟩))
                                      (try simp only [Act.put, List.setIfInBounds_toArray, List.set_cons_zero, List.set_cons_succ])
                                      go_cut [84] (fun v84 wc => ∃ (kq : Nat) (x84_28 : Bool) (x181000_28 : Int) (x181001_28 : Int) (x181002_28 : Int), v84 = .bool x84_28 ∧ Aside0 (terracelaw20_BucketPlays.j4 kq a0 x8_4 (rd ((rd_T33 l1 x47_3).f1) x62_4) t190 t191 l1 (l1.length : Int) x47_3 ((rd_T33 l1 x47_3).f1) (((rd_T33 l1 x47_3).f1).length : Int) x62_4 x84_28 x181000_28 x181001_28 x181002_28 = some r) ∧ Aside0 (kq ≤ k4) ∧ Aside0 (wc.heap[gb184]? = some (.cells #[.int .u64 ((rd_T33 l1 x47_3).f0), (.slice (some ad189) ((rd_T33 l1 x47_3).f1).length c183_1)] 33 (0, 0))) ∧ Aside0 (IsS62 w wc g180 x181000_28 x181001_28 x181002_28) ∧ Aside0 (Below w.heap.size w wc))
                                      case first =>
                                        have H := HC29.out
                                        clear HC29
                                        replace H := Option.bind_eq_some_iff.mp H
                                        obtain ⟨⟨t192, t193, t194, t195⟩, A300, H⟩ := H
                                        replace H : (if (t192 != t191) = true then (terracelaw20_BucketPlays.j4 k4 a0 x8_4 (rd ((rd_T33 l1 x47_3).f1) x62_4) t190 t191 l1 (l1.length : Int) x47_3 ((rd_T33 l1 x47_3).f1) (((rd_T33 l1 x47_3).f1).length : Int) x62_4 true t193 t194 t195) else ((bucket_Bucket_Spend.f t193 t194 t195 (rd ((rd_T33 l1 x47_3).f1) x62_4)).bind fun bt196 => (terracelaw20_BucketPlays.j4 k4 a0 x8_4 (rd ((rd_T33 l1 x47_3).f1) x62_4) t190 t191 l1 (l1.length : Int) x47_3 ((rd_T33 l1 x47_3).f1) (((rd_T33 l1 x47_3).f1).length : Int) x62_4 (bt196.1 != t191) bt196.2.1 bt196.2.2.1 bt196.2.2.2))) = some r := H
                                        have A30 := Aside0.mk A300
                                        clear A300
                                        by_cases c31 : (t192 != t191) = true
                                        · rw [if_pos c31] at H
                                          have c31b0 : (t192 != t191) = true := c31
                                          (try (have c31b1 : decide (t192 = t191) = false := by simpa using c31))
                                          (try (have c31b2 : (t192 == t191) = false := by simpa using c31))
                                          (try (have c31b3 : ¬ (t192 = t191) := by simpa using c31))
                                          clear c31
                                          (first | rw [c31b0] | (simp only [i64_w, i32_w]; rw [c31b0]) | skip)
                                          have H' := Aside0.mk H
                                          clear H
                                          go_wp2_with (first | ((with_reducible refine gate_callee (f := 14) rfl ?_); refine goesL_ (some 75) rfl rfl Try.func14 (by kernel_rfl) rfl #[.pointer (some ⟨g180, 0, none⟩), .int .i64 (rd ((rd_T33 l1 x47_3).f1) x62_4)] rfl (by (try simp only [List.map_toArray, List.map_cons, List.map_nil]); first | done | rfl | (simp only [List.length_drop, List.length_take]; rfl)) ?_; (with_reducible refine (bucket_Bucket_Can.calls g180 x181000_4 x181001_4 x181002_4 (rd ((rd_T33 l1 x47_3).f1) x62_4) t192 t193 t194 t195 w _ ?side1 ?side2 A30.out).mono ?_); (case side1 => repeat (first | (with_reducible first | exact HI180.out | apply IsS62.alloc | apply IsS62.drewN | apply IsS62.drew | apply IsS62.set_0 | apply IsS62.set_1 | apply IsS62.set_2 | refine IsS62.far ?_ NB180_184.out _) | exact HI180.out)); (case side2 => repeat (first | (with_reducible first | exact HB.out | apply below_alloc | apply pw_below_drewN | apply below_drew1 | refine below_set ?_ (IsS62.ge HI180.out) | refine below_set ?_ GE184.out) | exact HB.out)); rintro e w32 ⟨rfl, hi, hb, hk⟩; refine ⟨_, rfl, ?_⟩; have n0_ := Aside0.mk (KeepBut.blk hk (g' := gb184) (o := .cells #[.int .u64 ((rd_T33 l1 x47_3).f0), .slice (some ad189) ((rd_T33 l1 x47_3).f1).length c183_1] 33 (0, 0)) (by (with_reducible repeat (first | refine blk_drewN ?_ _ | refine blk_drew ?_ | refine blk_alloc ?_ _)); exact BK184.out) NB184_180.out (by simp)); have n1_ := Aside0.mk (hb); have n2_ := Aside0.mk (hi); clear BK184; clear HB; clear HI180; have BK184 := n0_; have HB := n1_; have HI180 := n2_; clear n0_ n1_ n2_; (try clear hb); (try clear hb2); (try clear hk); (try clear hi)))
                                          go_meet
                                          case rel => exact ⟨_, (true), (t193), (t194), (t195), (by first | rfl | (simp; done) | (simp [*]; done)), H', ⟨by have := HJ6.out; have := HJ11.out; have := HK3.out; have := HK4.out; first | omega | exact Nat.le_refl _⟩, ⟨by (with_reducible repeat (first | refine blk_drewN ?_ _ | refine blk_drew ?_ | refine blk_alloc ?_ _)); exact BK184.out⟩, ⟨by repeat (first | (with_reducible first | exact HI180.out | apply IsS62.alloc | apply IsS62.drewN | apply IsS62.drew | apply IsS62.set_0 | apply IsS62.set_1 | apply IsS62.set_2 | refine IsS62.far ?_ NB180_184.out _) | exact HI180.out)⟩, ⟨by repeat (first | (with_reducible first | exact HB.out | apply below_alloc | apply pw_below_drewN | apply below_drew1 | refine below_set ?_ (IsS62.ge HI180.out) | refine below_set ?_ GE184.out) | exact HB.out)⟩⟩
                                        · rw [if_neg c31] at H
                                          have c31b0 : (t192 != t191) = false := by simpa using c31
                                          (try (have c31b1 : decide (t192 = t191) = true := by simpa using c31))
                                          (try (have c31b2 : (t192 == t191) = true := by simpa using c31))
                                          clear c31
                                          (first | rw [c31b0] | (simp only [i64_w, i32_w]; rw [c31b0]) | skip)
                                          replace H := Option.bind_eq_some_iff.mp H
                                          obtain ⟨⟨t196, t197, t198, t199⟩, A330, H⟩ := H
                                          replace H : (terracelaw20_BucketPlays.j4 k4 a0 x8_4 (rd ((rd_T33 l1 x47_3).f1) x62_4) t190 t191 l1 (l1.length : Int) x47_3 ((rd_T33 l1 x47_3).f1) (((rd_T33 l1 x47_3).f1).length : Int) x62_4 (t196 != t191) t197 t198 t199) = some r := H
                                          have A33 := Aside0.mk A330
                                          clear A330
                                          have H' := Aside0.mk H
                                          clear H
                                          go_wp2_with (first | ((with_reducible refine gate_callee (f := 14) rfl ?_); refine goesL_ (some 75) rfl rfl Try.func14 (by kernel_rfl) rfl #[.pointer (some ⟨g180, 0, none⟩), .int .i64 (rd ((rd_T33 l1 x47_3).f1) x62_4)] rfl (by (try simp only [List.map_toArray, List.map_cons, List.map_nil]); first | done | rfl | (simp only [List.length_drop, List.length_take]; rfl)) ?_; (with_reducible refine (bucket_Bucket_Can.calls g180 x181000_4 x181001_4 x181002_4 (rd ((rd_T33 l1 x47_3).f1) x62_4) t192 t193 t194 t195 w _ ?side1 ?side2 A30.out).mono ?_); (case side1 => repeat (first | (with_reducible first | exact HI180.out | apply IsS62.alloc | apply IsS62.drewN | apply IsS62.drew | apply IsS62.set_0 | apply IsS62.set_1 | apply IsS62.set_2 | refine IsS62.far ?_ NB180_184.out _) | exact HI180.out)); (case side2 => repeat (first | (with_reducible first | exact HB.out | apply below_alloc | apply pw_below_drewN | apply below_drew1 | refine below_set ?_ (IsS62.ge HI180.out) | refine below_set ?_ GE184.out) | exact HB.out)); rintro e w34 ⟨rfl, hi, hb, hk⟩; refine ⟨_, rfl, ?_⟩; have n0_ := Aside0.mk (KeepBut.blk hk (g' := gb184) (o := .cells #[.int .u64 ((rd_T33 l1 x47_3).f0), .slice (some ad189) ((rd_T33 l1 x47_3).f1).length c183_1] 33 (0, 0)) (by (with_reducible repeat (first | refine blk_drewN ?_ _ | refine blk_drew ?_ | refine blk_alloc ?_ _)); exact BK184.out) NB184_180.out (by simp)); have n1_ := Aside0.mk (hb); have n2_ := Aside0.mk (hi); clear BK184; clear HB; clear HI180; have BK184 := n0_; have HB := n1_; have HI180 := n2_; clear n0_ n1_ n2_; (try clear hb); (try clear hb2); (try clear hk); (try clear hi)) | (go_at_call 15; (with_reducible refine (bucket_Bucket_Spend.calls g180 t193 t194 t195 (rd ((rd_T33 l1 x47_3).f1) x62_4) t196 t197 t198 t199 w _ ?side1 ?side2 A33.out).mono ?_); (case side1 => repeat (first | (with_reducible first | exact HI180.out | apply IsS62.alloc | apply IsS62.drewN | apply IsS62.drew | apply IsS62.set_0 | apply IsS62.set_1 | apply IsS62.set_2 | refine IsS62.far ?_ NB180_184.out _) | exact HI180.out)); (case side2 => repeat (first | (with_reducible first | exact HB.out | apply below_alloc | apply pw_below_drewN | apply below_drew1 | refine below_set ?_ (IsS62.ge HI180.out) | refine below_set ?_ GE184.out) | exact HB.out)); rintro e w35 ⟨rfl, hi, hb, hk⟩; have n0_ := Aside0.mk (KeepBut.blk hk (g' := gb184) (o := .cells #[.int .u64 ((rd_T33 l1 x47_3).f0), .slice (some ad189) ((rd_T33 l1 x47_3).f1).length c183_1] 33 (0, 0)) (by (with_reducible repeat (first | refine blk_drewN ?_ _ | refine blk_drew ?_ | refine blk_alloc ?_ _)); exact BK184.out) NB184_180.out (by simp)); have n1_ := Aside0.mk (hb); have n2_ := Aside0.mk (hi); clear BK184; clear HB; clear HI180; have BK184 := n0_; have HB := n1_; have HI180 := n2_; clear n0_ n1_ n2_; (try clear hb); (try clear hb2); (try clear hk); (try clear hi)))
                                          go_meet
                                          case rel => exact ⟨_, ((t196 != t191)), (t197), (t198), (t199), (by first | rfl | (simp; done) | (simp [*]; done)), H', ⟨by have := HJ6.out; have := HJ11.out; have := HK3.out; have := HK4.out; first | omega | exact Nat.le_refl _⟩, ⟨by (with_reducible repeat (first | refine blk_drewN ?_ _ | refine blk_drew ?_ | refine blk_alloc ?_ _)); exact BK184.out⟩, ⟨by repeat (first | (with_reducible first | exact HI180.out | apply IsS62.alloc | apply IsS62.drewN | apply IsS62.drew | apply IsS62.set_0 | apply IsS62.set_1 | apply IsS62.set_2 | refine IsS62.far ?_ NB180_184.out _) | exact HI180.out)⟩, ⟨by repeat (first | (with_reducible first | exact HB.out | apply below_alloc | apply pw_below_drewN | apply below_drew1 | refine below_set ?_ (IsS62.ge HI180.out) | refine below_set ?_ GE184.out) | exact HB.out)⟩⟩
                                      case rest =>
                                        clear HC29
                                        try clear c1
                                        try clear p1
                                        try clear q1
                                        try clear hx1
                                        try clear c2
                                        try clear p2
                                        try clear c3
                                        try clear c4
                                        try clear c5
                                        try clear c5b0
                                        try clear c8
                                        try clear c10
                                        try clear c10b0
                                        try clear c11
                                        try clear c12
                                        try clear c13
                                        try clear c13b0
                                        try clear c13b1
                                        try clear c14
                                        try clear c15
                                        try clear c15b0
                                        try clear c16
                                        try clear c16b0
                                        try clear c17
                                        try clear c17b0
                                        try clear c18
                                        try clear p18
                                        try clear q18
                                        try clear hx18
                                        try clear c21
                                        try clear c25
                                        try clear c25b0
                                        try clear c26
                                        try clear c26b0
                                        try clear c27
                                        try clear c27b0
                                        try clear c31
                                        try clear c31b0
                                        try clear c31b1
                                        try clear c31b2
                                        try clear hcz22_0
                                        try clear hcz22_1
                                        try clear hcz24_0
                                        try clear hcz24_1
                                        try clear hfz22_0
                                        try clear hfz22_1
                                        try clear hfz24_0
                                        try clear hfz24_1
                                        try clear hx183_0
                                        try clear hx183_1
                                        try clear hx189_0
                                        try clear p1
                                        try clear p18
                                        try clear p183
                                        try clear p189
                                        try clear p2
                                        try clear q1
                                        try clear q18
                                        try clear q183
                                        try clear q189
                                        obtain ⟨kq, x84_28, x181000_28, x181001_28, x181002_28, rfl, HA, HJ28, BK184, HI180, HB⟩ := hcut
                                        cases kq with
                                        | zero => exact absurd HA.out (by simp [terracelaw20_BucketPlays.j4])
                                        | succ kj28 =>
                                          have H := HA.out
                                          clear HA
                                          simp only [terracelaw20_BucketPlays.j4] at H
                                          by_cases c36 : x84_28 = true
                                          · subst c36
                                            have H1 : (some false) = some r := by rw [if_pos rfl] at H; exact H
                                            clear H
                                            have H := H1
                                            clear H1
                                            obtain rfl := Option.some.inj H
                                            go_wp2
                                            go_ret
                                            exact ⟨by first | rfl | (simp [errW_none, errW_some] <;> rfl) | (simp [*, errW_none, errW_some] <;> rfl), by repeat (first | (with_reducible first | exact HB.out | apply below_alloc | apply pw_below_drewN | apply below_drew1 | refine below_set ?_ (IsS62.ge HI180.out) | refine below_set ?_ GE184.out) | exact HB.out)⟩
                                          · replace c36 := Bool.eq_false_iff.mpr c36
                                            subst c36
                                            have H1 : (if t191 = true then (terracelaw20_BucketPlays.l1 kj28 a0 t190 (wrap64 (x8_4 + (rd ((rd_T33 l1 x47_3).f1) x62_4))) l1 (l1.length : Int) x47_3 ((rd_T33 l1 x47_3).f1) (((rd_T33 l1 x47_3).f1).length : Int) (wrap64 (x62_4 + 1)) x181000_28 x181001_28 x181002_28) else (terracelaw20_BucketPlays.l1 kj28 a0 t190 x8_4 l1 (l1.length : Int) x47_3 ((rd_T33 l1 x47_3).f1) (((rd_T33 l1 x47_3).f1).length : Int) (wrap64 (x62_4 + 1)) x181000_28 x181001_28 x181002_28)) = some r := by rw [if_neg (show ¬ (false = true) by decide)] at H; exact H
                                            clear H
                                            have H := H1
                                            clear H1
                                            by_cases c37 : t191 = true
                                            · subst c37
                                              have H1 : (terracelaw20_BucketPlays.l1 kj28 a0 t190 (wrap64 (x8_4 + (rd ((rd_T33 l1 x47_3).f1) x62_4))) l1 (l1.length : Int) x47_3 ((rd_T33 l1 x47_3).f1) (((rd_T33 l1 x47_3).f1).length : Int) (wrap64 (x62_4 + 1)) x181000_28 x181001_28 x181002_28) = some r := by rw [if_pos rfl] at H; exact H
                                              clear H
                                              have H := H1
                                              clear H1
                                              have H' := Aside0.mk H
                                              clear H
                                              go_wp2
                                              go_roundg kj28
                                              case measure => have := HJ6.out; have := HJ11.out; have := HK3.out; have := HK4.out; have := HJ28.out; omega
                                              case rel => exact ⟨(t190), (wrap64 (x8_4 + (rd ((rd_T33 l1 x47_3).f1) x62_4))), (wrap64 (x62_4 + 1)), (x181000_28), (x181001_28), (x181002_28), (by first | rfl | (simp; done) | (simp [*]; done)), (by first | rfl | (simp; done) | (simp [*]; done)), (by first | rfl | (simp; done) | (simp [*]; done)), H', ⟨by have := HJ6.out; have := HJ11.out; have := HK3.out; have := HK4.out; have := HJ28.out; omega⟩, ⟨by (with_reducible repeat (first | refine blk_drewN ?_ _ | refine blk_drew ?_ | refine blk_alloc ?_ _)); exact BK184.out⟩, ⟨by repeat (first | (with_reducible first | exact HI180.out | apply IsS62.alloc | apply IsS62.drewN | apply IsS62.drew | apply IsS62.set_0 | apply IsS62.set_1 | apply IsS62.set_2 | refine IsS62.far ?_ NB180_184.out _) | exact HI180.out)⟩, ⟨by repeat (first | (with_reducible first | exact HB.out | apply below_alloc | apply pw_below_drewN | apply below_drew1 | refine below_set ?_ (IsS62.ge HI180.out) | refine below_set ?_ GE184.out) | exact HB.out)⟩⟩
                                            · replace c37 := Bool.eq_false_iff.mpr c37
                                              subst c37
                                              have H1 : (terracelaw20_BucketPlays.l1 kj28 a0 t190 x8_4 l1 (l1.length : Int) x47_3 ((rd_T33 l1 x47_3).f1) (((rd_T33 l1 x47_3).f1).length : Int) (wrap64 (x62_4 + 1)) x181000_28 x181001_28 x181002_28) = some r := by rw [if_neg (show ¬ (false = true) by decide)] at H; exact H
                                              clear H
                                              have H := H1
                                              clear H1
                                              have H' := Aside0.mk H
                                              clear H
                                              go_wp2
                                              go_roundg kj28
                                              case measure => have := HJ6.out; have := HJ11.out; have := HK3.out; have := HK4.out; have := HJ28.out; omega
                                              case rel => exact ⟨(t190), (x8_4), (wrap64 (x62_4 + 1)), (x181000_28), (x181001_28), (x181002_28), (by first | rfl | (simp; done) | (simp [*]; done)), (by first | rfl | (simp; done) | (simp [*]; done)), (by first | rfl | (simp; done) | (simp [*]; done)), H', ⟨by have := HJ6.out; have := HJ11.out; have := HK3.out; have := HK4.out; have := HJ28.out; omega⟩, ⟨by (with_reducible repeat (first | refine blk_drewN ?_ _ | refine blk_drew ?_ | refine blk_alloc ?_ _)); exact BK184.out⟩, ⟨by repeat (first | (with_reducible first | exact HI180.out | apply IsS62.alloc | apply IsS62.drewN | apply IsS62.drew | apply IsS62.set_0 | apply IsS62.set_1 | apply IsS62.set_2 | refine IsS62.far ?_ NB180_184.out _) | exact HI180.out)⟩, ⟨by repeat (first | (with_reducible first | exact HB.out | apply below_alloc | apply pw_below_drewN | apply below_drew1 | refine below_set ?_ (IsS62.ge HI180.out) | refine below_set ?_ GE184.out) | exact HB.out)⟩⟩
                                    · rw [if_neg c27] at H
                                      exact absurd H (by simp)
                                  · rw [if_neg c26] at H
                                    exact absurd H (by simp)
                                · rw [if_neg c25] at H
                                  have c25b0 : decide (x62_4 < (((rd_T33 l1 x47_3).f1).length : Int)) = false := decide_eq_false c25
                                  clear c25
                                  replace H := Option.bind_eq_some_iff.mp H
                                  obtain ⟨⟨t200, t201, t202, t203⟩, A380, H⟩ := H
                                  replace H : (if t200 = x7_4 then ((bucket_Bucket_End.f t201 t202 t203).bind fun bt204 => ((terraceref20_End.f x7_4 a0).bind fun t207 => ((bucket_Bucket_Tokens.f bt204.1 bt204.2.1 bt204.2.2).bind fun bt208 => (if bt208.1 = t207 then ((bucket_Bucket_Spent.f bt208.2.1 bt208.2.2.1 bt208.2.2.2).bind fun bt212 => (if bt212.1 = x8_4 then (terracelaw20_BucketPlays.l0 k4 a0 t207 x8_4 l1 (l1.length : Int) (wrap64 (x47_3 + 1)) bt212.2.1 bt212.2.2.1 bt212.2.2.2) else (some false))) else (some false))))) else (some false)) = some r := H
                                  have A38 := Aside0.mk A380
                                  clear A380
                                  by_cases c39 : t200 = x7_4
                                  · rw [if_pos c39] at H
                                    have c39b0 : (t200 == x7_4) = true := beq_iff_eq.mpr c39
                                    have c39b1 : (t200 != x7_4) = false := bne_eq_false_iff_eq.mpr c39
                                    clear c39
                                    replace H := Option.bind_eq_some_iff.mp H
                                    obtain ⟨⟨t204, t205, t206⟩, A400, H⟩ := H
                                    replace H : ((terraceref20_End.f x7_4 a0).bind fun t207 => ((bucket_Bucket_Tokens.f t204 t205 t206).bind fun bt208 => (if bt208.1 = t207 then ((bucket_Bucket_Spent.f bt208.2.1 bt208.2.2.1 bt208.2.2.2).bind fun bt212 => (if bt212.1 = x8_4 then (terracelaw20_BucketPlays.l0 k4 a0 t207 x8_4 l1 (l1.length : Int) (wrap64 (x47_3 + 1)) bt212.2.1 bt212.2.2.1 bt212.2.2.2) else (some false))) else (some false)))) = some r := H
                                    have A40 := Aside0.mk A400
                                    clear A400
                                    replace H := Option.bind_eq_some_iff.mp H
                                    obtain ⟨t207, A410, H⟩ := H
                                    replace H : ((bucket_Bucket_Tokens.f t204 t205 t206).bind fun bt208 => (if bt208.1 = t207 then ((bucket_Bucket_Spent.f bt208.2.1 bt208.2.2.1 bt208.2.2.2).bind fun bt212 => (if bt212.1 = x8_4 then (terracelaw20_BucketPlays.l0 k4 a0 t207 x8_4 l1 (l1.length : Int) (wrap64 (x47_3 + 1)) bt212.2.1 bt212.2.2.1 bt212.2.2.2) else (some false))) else (some false))) = some r := H
                                    have A41 := Aside0.mk A410
                                    clear A410
                                    replace H := Option.bind_eq_some_iff.mp H
                                    obtain ⟨⟨t208, t209, t210, t211⟩, A420, H⟩ := H
                                    replace H : (if t208 = t207 then ((bucket_Bucket_Spent.f t209 t210 t211).bind fun bt212 => (if bt212.1 = x8_4 then (terracelaw20_BucketPlays.l0 k4 a0 t207 x8_4 l1 (l1.length : Int) (wrap64 (x47_3 + 1)) bt212.2.1 bt212.2.2.1 bt212.2.2.2) else (some false))) else (some false)) = some r := H
                                    have A42 := Aside0.mk A420
                                    clear A420
                                    by_cases c43 : t208 = t207
                                    · rw [if_pos c43] at H
                                      have c43b0 : (t208 == t207) = true := beq_iff_eq.mpr c43
                                      have c43b1 : (t208 != t207) = false := bne_eq_false_iff_eq.mpr c43
                                      clear c43
                                      replace H := Option.bind_eq_some_iff.mp H
                                      obtain ⟨⟨t212, t213, t214, t215⟩, A440, H⟩ := H
                                      replace H : (if t212 = x8_4 then (terracelaw20_BucketPlays.l0 k4 a0 t207 x8_4 l1 (l1.length : Int) (wrap64 (x47_3 + 1)) t213 t214 t215) else (some false)) = some r := H
                                      have A44 := Aside0.mk A440
                                      clear A440
                                      by_cases c45 : t212 = x8_4
                                      · rw [if_pos c45] at H
                                        have c45b0 : (t212 == x8_4) = true := beq_iff_eq.mpr c45
                                        have c45b1 : (t212 != x8_4) = false := bne_eq_false_iff_eq.mpr c45
                                        clear c45
                                        have H' := Aside0.mk H
                                        clear H
                                        go_wp2_with (first | ((with_reducible refine gate_callee (f := 16) rfl ?_); refine goesL_ (some 92) rfl rfl Try.func16 (by kernel_rfl) rfl #[.pointer (some ⟨g180, 0, none⟩)] rfl (by (try simp only [List.map_toArray, List.map_cons, List.map_nil]); first | done | rfl | (simp only [List.length_drop, List.length_take]; rfl)) ?_; (with_reducible refine (bucket_Bucket_Tokens.calls g180 x181000_4 x181001_4 x181002_4 t200 t201 t202 t203 w _ ?side1 ?side2 A38.out).mono ?_); (case side1 => repeat (first | (with_reducible first | exact HI180.out | apply IsS62.alloc | apply IsS62.drewN | apply IsS62.drew | apply IsS62.set_0 | apply IsS62.set_1 | apply IsS62.set_2 | refine IsS62.far ?_ NB180_184.out _) | exact HI180.out)); (case side2 => repeat (first | (with_reducible first | exact HB.out | apply below_alloc | apply pw_below_drewN | apply below_drew1 | refine below_set ?_ (IsS62.ge HI180.out) | refine below_set ?_ GE184.out) | exact HB.out)); rintro e w46 ⟨rfl, hi, hb, hk⟩; refine ⟨_, rfl, ?_⟩; have n0_ := Aside0.mk (KeepBut.blk hk (g' := gb184) (o := .cells #[.int .u64 ((rd_T33 l1 x47_3).f0), .slice A183_1 ((rd_T33 l1 x47_3).f1).length c183_1] 33 (0, 0)) (by (with_reducible repeat (first | refine blk_drewN ?_ _ | refine blk_drew ?_ | refine blk_alloc ?_ _)); exact BK184.out) NB184_180.out (by simp)); have n1_ := Aside0.mk (hb); have n2_ := Aside0.mk (hi); clear BK184; clear HB; clear HI180; have BK184 := n0_; have HB := n1_; have HI180 := n2_; clear n0_ n1_ n2_; (try clear hb); (try clear hb2); (try clear hk); (try clear hi)) | ((with_reducible refine gate_callee (f := 17) rfl ?_); refine goesL_ (some 96) rfl rfl Try.func17 (by kernel_rfl) rfl #[.pointer (some ⟨g180, 0, none⟩)] rfl (by (try simp only [List.map_toArray, List.map_cons, List.map_nil]); first | done | rfl | (simp only [List.length_drop, List.length_take]; rfl)) ?_; (with_reducible refine (bucket_Bucket_End.calls g180 t201 t202 t203 t204 t205 t206 w _ ?side1 ?side2 A40.out).mono ?_); (case side1 => repeat (first | (with_reducible first | exact HI180.out | apply IsS62.alloc | apply IsS62.drewN | apply IsS62.drew | apply IsS62.set_0 | apply IsS62.set_1 | apply IsS62.set_2 | refine IsS62.far ?_ NB180_184.out _) | exact HI180.out)); (case side2 => repeat (first | (with_reducible first | exact HB.out | apply below_alloc | apply pw_below_drewN | apply below_drew1 | refine below_set ?_ (IsS62.ge HI180.out) | refine below_set ?_ GE184.out) | exact HB.out)); rintro e w47 ⟨rfl, hi, hb, hk⟩; refine ⟨_, rfl, ?_⟩; have n0_ := Aside0.mk (KeepBut.blk hk (g' := gb184) (o := .cells #[.int .u64 ((rd_T33 l1 x47_3).f0), .slice A183_1 ((rd_T33 l1 x47_3).f1).length c183_1] 33 (0, 0)) (by (with_reducible repeat (first | refine blk_drewN ?_ _ | refine blk_drew ?_ | refine blk_alloc ?_ _)); exact BK184.out) NB184_180.out (by simp)); have n1_ := Aside0.mk (hb); have n2_ := Aside0.mk (hi); clear BK184; clear HB; clear HI180; have BK184 := n0_; have HB := n1_; have HI180 := n2_; clear n0_ n1_ n2_; (try clear hb); (try clear hb2); (try clear hk); (try clear hi)) | ((with_reducible refine gate_callee (f := 18) rfl ?_); refine goesL_ (some 99) rfl rfl Try.func18 (by kernel_rfl) rfl #[.int .u64 x7_4, .int .i64 a0] rfl (by (try simp only [List.map_toArray, List.map_cons, List.map_nil]); first | done | rfl | (simp only [List.length_drop, List.length_take]; rfl)) ?_; (with_reducible refine (terraceref20_End.calls x7_4 a0 t207 _ A41.out).mono ?_); rintro e w' ⟨rfl, ⟨nd, rfl⟩⟩; refine ⟨_, rfl, ?_⟩) | ((with_reducible refine gate_callee (f := 16) rfl ?_); refine goesL_ (some 101) rfl rfl Try.func16 (by kernel_rfl) rfl #[.pointer (some ⟨g180, 0, none⟩)] rfl (by (try simp only [List.map_toArray, List.map_cons, List.map_nil]); first | done | rfl | (simp only [List.length_drop, List.length_take]; rfl)) ?_; (with_reducible refine (bucket_Bucket_Tokens.calls g180 t204 t205 t206 t208 t209 t210 t211 w _ ?side1 ?side2 A42.out).mono ?_); (case side1 => repeat (first | (with_reducible first | exact HI180.out | apply IsS62.alloc | apply IsS62.drewN | apply IsS62.drew | apply IsS62.set_0 | apply IsS62.set_1 | apply IsS62.set_2 | refine IsS62.far ?_ NB180_184.out _) | exact HI180.out)); (case side2 => repeat (first | (with_reducible first | exact HB.out | apply below_alloc | apply pw_below_drewN | apply below_drew1 | refine below_set ?_ (IsS62.ge HI180.out) | refine below_set ?_ GE184.out) | exact HB.out)); rintro e w48 ⟨rfl, hi, hb, hk⟩; refine ⟨_, rfl, ?_⟩; have n0_ := Aside0.mk (KeepBut.blk hk (g' := gb184) (o := .cells #[.int .u64 ((rd_T33 l1 x47_3).f0), .slice A183_1 ((rd_T33 l1 x47_3).f1).length c183_1] 33 (0, 0)) (by (with_reducible repeat (first | refine blk_drewN ?_ _ | refine blk_drew ?_ | refine blk_alloc ?_ _)); exact BK184.out) NB184_180.out (by simp)); have n1_ := Aside0.mk (hb); have n2_ := Aside0.mk (hi); clear BK184; clear HB; clear HI180; have BK184 := n0_; have HB := n1_; have HI180 := n2_; clear n0_ n1_ n2_; (try clear hb); (try clear hb2); (try clear hk); (try clear hi)) | (go_at_call 19; (with_reducible refine (bucket_Bucket_Spent.calls g180 t209 t210 t211 t212 t213 t214 t215 w _ ?side1 ?side2 A44.out).mono ?_); (case side1 => repeat (first | (with_reducible first | exact HI180.out | apply IsS62.alloc | apply IsS62.drewN | apply IsS62.drew | apply IsS62.set_0 | apply IsS62.set_1 | apply IsS62.set_2 | refine IsS62.far ?_ NB180_184.out _) | exact HI180.out)); (case side2 => repeat (first | (with_reducible first | exact HB.out | apply below_alloc | apply pw_below_drewN | apply below_drew1 | refine below_set ?_ (IsS62.ge HI180.out) | refine below_set ?_ GE184.out) | exact HB.out)); rintro e w49 ⟨rfl, hi, hb, hk⟩; have n0_ := Aside0.mk (KeepBut.blk hk (g' := gb184) (o := .cells #[.int .u64 ((rd_T33 l1 x47_3).f0), .slice A183_1 ((rd_T33 l1 x47_3).f1).length c183_1] 33 (0, 0)) (by (with_reducible repeat (first | refine blk_drewN ?_ _ | refine blk_drew ?_ | refine blk_alloc ?_ _)); exact BK184.out) NB184_180.out (by simp)); have n1_ := Aside0.mk (hb); have n2_ := Aside0.mk (hi); clear BK184; clear HB; clear HI180; have BK184 := n0_; have HB := n1_; have HI180 := n2_; clear n0_ n1_ n2_; (try clear hb); (try clear hb2); (try clear hk); (try clear hi)))
                                        go_roundg k4
                                        case measure => have := HJ6.out; have := HJ11.out; have := HK3.out; have := HK4.out; omega
                                        case rel => exact ⟨(t207), (x8_4), (wrap64 (x47_3 + 1)), (t213), (t214), (t215), (by first | rfl | (simp; done) | (simp [*]; done)), (by first | rfl | (simp; done) | (simp [*]; done)), (by first | rfl | (simp; done) | (simp [*]; done)), H', ⟨by have := HJ6.out; have := HJ11.out; have := HK3.out; have := HK4.out; omega⟩, ⟨by repeat (first | (with_reducible first | exact HI180.out | apply IsS62.alloc | apply IsS62.drewN | apply IsS62.drew | apply IsS62.set_0 | apply IsS62.set_1 | apply IsS62.set_2 | refine IsS62.far ?_ NB180_184.out _) | exact HI180.out)⟩, ⟨by repeat (first | (with_reducible first | exact HB.out | apply below_alloc | apply pw_below_drewN | apply below_drew1 | refine below_set ?_ (IsS62.ge HI180.out) | refine below_set ?_ GE184.out) | exact HB.out)⟩⟩
                                      · rw [if_neg c45] at H
                                        have c45b0 : (t212 == x8_4) = false := beq_eq_false_iff_ne.mpr c45
                                        have c45b1 : (t212 != x8_4) = true := bne_iff_ne.mpr c45
                                        obtain rfl := Option.some.inj H
                                        go_wp2_with (first | ((with_reducible refine gate_callee (f := 16) rfl ?_); refine goesL_ (some 92) rfl rfl Try.func16 (by kernel_rfl) rfl #[.pointer (some ⟨g180, 0, none⟩)] rfl (by (try simp only [List.map_toArray, List.map_cons, List.map_nil]); first | done | rfl | (simp only [List.length_drop, List.length_take]; rfl)) ?_; (with_reducible refine (bucket_Bucket_Tokens.calls g180 x181000_4 x181001_4 x181002_4 t200 t201 t202 t203 w _ ?side1 ?side2 A38.out).mono ?_); (case side1 => repeat (first | (with_reducible first | exact HI180.out | apply IsS62.alloc | apply IsS62.drewN | apply IsS62.drew | apply IsS62.set_0 | apply IsS62.set_1 | apply IsS62.set_2 | refine IsS62.far ?_ NB180_184.out _) | exact HI180.out)); (case side2 => repeat (first | (with_reducible first | exact HB.out | apply below_alloc | apply pw_below_drewN | apply below_drew1 | refine below_set ?_ (IsS62.ge HI180.out) | refine below_set ?_ GE184.out) | exact HB.out)); rintro e w50 ⟨rfl, hi, hb, hk⟩; refine ⟨_, rfl, ?_⟩; have n0_ := Aside0.mk (KeepBut.blk hk (g' := gb184) (o := .cells #[.int .u64 ((rd_T33 l1 x47_3).f0), .slice A183_1 ((rd_T33 l1 x47_3).f1).length c183_1] 33 (0, 0)) (by (with_reducible repeat (first | refine blk_drewN ?_ _ | refine blk_drew ?_ | refine blk_alloc ?_ _)); exact BK184.out) NB184_180.out (by simp)); have n1_ := Aside0.mk (hb); have n2_ := Aside0.mk (hi); clear BK184; clear HB; clear HI180; have BK184 := n0_; have HB := n1_; have HI180 := n2_; clear n0_ n1_ n2_; (try clear hb); (try clear hb2); (try clear hk); (try clear hi)) | ((with_reducible refine gate_callee (f := 17) rfl ?_); refine goesL_ (some 96) rfl rfl Try.func17 (by kernel_rfl) rfl #[.pointer (some ⟨g180, 0, none⟩)] rfl (by (try simp only [List.map_toArray, List.map_cons, List.map_nil]); first | done | rfl | (simp only [List.length_drop, List.length_take]; rfl)) ?_; (with_reducible refine (bucket_Bucket_End.calls g180 t201 t202 t203 t204 t205 t206 w _ ?side1 ?side2 A40.out).mono ?_); (case side1 => repeat (first | (with_reducible first | exact HI180.out | apply IsS62.alloc | apply IsS62.drewN | apply IsS62.drew | apply IsS62.set_0 | apply IsS62.set_1 | apply IsS62.set_2 | refine IsS62.far ?_ NB180_184.out _) | exact HI180.out)); (case side2 => repeat (first | (with_reducible first | exact HB.out | apply below_alloc | apply pw_below_drewN | apply below_drew1 | refine below_set ?_ (IsS62.ge HI180.out) | refine below_set ?_ GE184.out) | exact HB.out)); rintro e w51 ⟨rfl, hi, hb, hk⟩; refine ⟨_, rfl, ?_⟩; have n0_ := Aside0.mk (KeepBut.blk hk (g' := gb184) (o := .cells #[.int .u64 ((rd_T33 l1 x47_3).f0), .slice A183_1 ((rd_T33 l1 x47_3).f1).length c183_1] 33 (0, 0)) (by (with_reducible repeat (first | refine blk_drewN ?_ _ | refine blk_drew ?_ | refine blk_alloc ?_ _)); exact BK184.out) NB184_180.out (by simp)); have n1_ := Aside0.mk (hb); have n2_ := Aside0.mk (hi); clear BK184; clear HB; clear HI180; have BK184 := n0_; have HB := n1_; have HI180 := n2_; clear n0_ n1_ n2_; (try clear hb); (try clear hb2); (try clear hk); (try clear hi)) | ((with_reducible refine gate_callee (f := 18) rfl ?_); refine goesL_ (some 99) rfl rfl Try.func18 (by kernel_rfl) rfl #[.int .u64 x7_4, .int .i64 a0] rfl (by (try simp only [List.map_toArray, List.map_cons, List.map_nil]); first | done | rfl | (simp only [List.length_drop, List.length_take]; rfl)) ?_; (with_reducible refine (terraceref20_End.calls x7_4 a0 t207 _ A41.out).mono ?_); rintro e w' ⟨rfl, ⟨nd, rfl⟩⟩; refine ⟨_, rfl, ?_⟩) | ((with_reducible refine gate_callee (f := 16) rfl ?_); refine goesL_ (some 101) rfl rfl Try.func16 (by kernel_rfl) rfl #[.pointer (some ⟨g180, 0, none⟩)] rfl (by (try simp only [List.map_toArray, List.map_cons, List.map_nil]); first | done | rfl | (simp only [List.length_drop, List.length_take]; rfl)) ?_; (with_reducible refine (bucket_Bucket_Tokens.calls g180 t204 t205 t206 t208 t209 t210 t211 w _ ?side1 ?side2 A42.out).mono ?_); (case side1 => repeat (first | (with_reducible first | exact HI180.out | apply IsS62.alloc | apply IsS62.drewN | apply IsS62.drew | apply IsS62.set_0 | apply IsS62.set_1 | apply IsS62.set_2 | refine IsS62.far ?_ NB180_184.out _) | exact HI180.out)); (case side2 => repeat (first | (with_reducible first | exact HB.out | apply below_alloc | apply pw_below_drewN | apply below_drew1 | refine below_set ?_ (IsS62.ge HI180.out) | refine below_set ?_ GE184.out) | exact HB.out)); rintro e w52 ⟨rfl, hi, hb, hk⟩; refine ⟨_, rfl, ?_⟩; have n0_ := Aside0.mk (KeepBut.blk hk (g' := gb184) (o := .cells #[.int .u64 ((rd_T33 l1 x47_3).f0), .slice A183_1 ((rd_T33 l1 x47_3).f1).length c183_1] 33 (0, 0)) (by (with_reducible repeat (first | refine blk_drewN ?_ _ | refine blk_drew ?_ | refine blk_alloc ?_ _)); exact BK184.out) NB184_180.out (by simp)); have n1_ := Aside0.mk (hb); have n2_ := Aside0.mk (hi); clear BK184; clear HB; clear HI180; have BK184 := n0_; have HB := n1_; have HI180 := n2_; clear n0_ n1_ n2_; (try clear hb); (try clear hb2); (try clear hk); (try clear hi)) | (go_at_call 19; (with_reducible refine (bucket_Bucket_Spent.calls g180 t209 t210 t211 t212 t213 t214 t215 w _ ?side1 ?side2 A44.out).mono ?_); (case side1 => repeat (first | (with_reducible first | exact HI180.out | apply IsS62.alloc | apply IsS62.drewN | apply IsS62.drew | apply IsS62.set_0 | apply IsS62.set_1 | apply IsS62.set_2 | refine IsS62.far ?_ NB180_184.out _) | exact HI180.out)); (case side2 => repeat (first | (with_reducible first | exact HB.out | apply below_alloc | apply pw_below_drewN | apply below_drew1 | refine below_set ?_ (IsS62.ge HI180.out) | refine below_set ?_ GE184.out) | exact HB.out)); rintro e w53 ⟨rfl, hi, hb, hk⟩; have n0_ := Aside0.mk (KeepBut.blk hk (g' := gb184) (o := .cells #[.int .u64 ((rd_T33 l1 x47_3).f0), .slice A183_1 ((rd_T33 l1 x47_3).f1).length c183_1] 33 (0, 0)) (by (with_reducible repeat (first | refine blk_drewN ?_ _ | refine blk_drew ?_ | refine blk_alloc ?_ _)); exact BK184.out) NB184_180.out (by simp)); have n1_ := Aside0.mk (hb); have n2_ := Aside0.mk (hi); clear BK184; clear HB; clear HI180; have BK184 := n0_; have HB := n1_; have HI180 := n2_; clear n0_ n1_ n2_; (try clear hb); (try clear hb2); (try clear hk); (try clear hi)))
                                        go_ret
                                        exact ⟨by first | rfl | (simp [errW_none, errW_some] <;> rfl) | (simp [*, errW_none, errW_some] <;> rfl), by repeat (first | (with_reducible first | exact HB.out | apply below_alloc | apply pw_below_drewN | apply below_drew1 | refine below_set ?_ (IsS62.ge HI180.out) | refine below_set ?_ GE184.out) | exact HB.out)⟩
                                    · rw [if_neg c43] at H
                                      have c43b0 : (t208 == t207) = false := beq_eq_false_iff_ne.mpr c43
                                      have c43b1 : (t208 != t207) = true := bne_iff_ne.mpr c43
                                      obtain rfl := Option.some.inj H
                                      go_wp2_with (first | ((with_reducible refine gate_callee (f := 16) rfl ?_); refine goesL_ (some 92) rfl rfl Try.func16 (by kernel_rfl) rfl #[.pointer (some ⟨g180, 0, none⟩)] rfl (by (try simp only [List.map_toArray, List.map_cons, List.map_nil]); first | done | rfl | (simp only [List.length_drop, List.length_take]; rfl)) ?_; (with_reducible refine (bucket_Bucket_Tokens.calls g180 x181000_4 x181001_4 x181002_4 t200 t201 t202 t203 w _ ?side1 ?side2 A38.out).mono ?_); (case side1 => repeat (first | (with_reducible first | exact HI180.out | apply IsS62.alloc | apply IsS62.drewN | apply IsS62.drew | apply IsS62.set_0 | apply IsS62.set_1 | apply IsS62.set_2 | refine IsS62.far ?_ NB180_184.out _) | exact HI180.out)); (case side2 => repeat (first | (with_reducible first | exact HB.out | apply below_alloc | apply pw_below_drewN | apply below_drew1 | refine below_set ?_ (IsS62.ge HI180.out) | refine below_set ?_ GE184.out) | exact HB.out)); rintro e w54 ⟨rfl, hi, hb, hk⟩; refine ⟨_, rfl, ?_⟩; have n0_ := Aside0.mk (KeepBut.blk hk (g' := gb184) (o := .cells #[.int .u64 ((rd_T33 l1 x47_3).f0), .slice A183_1 ((rd_T33 l1 x47_3).f1).length c183_1] 33 (0, 0)) (by (with_reducible repeat (first | refine blk_drewN ?_ _ | refine blk_drew ?_ | refine blk_alloc ?_ _)); exact BK184.out) NB184_180.out (by simp)); have n1_ := Aside0.mk (hb); have n2_ := Aside0.mk (hi); clear BK184; clear HB; clear HI180; have BK184 := n0_; have HB := n1_; have HI180 := n2_; clear n0_ n1_ n2_; (try clear hb); (try clear hb2); (try clear hk); (try clear hi)) | ((with_reducible refine gate_callee (f := 17) rfl ?_); refine goesL_ (some 96) rfl rfl Try.func17 (by kernel_rfl) rfl #[.pointer (some ⟨g180, 0, none⟩)] rfl (by (try simp only [List.map_toArray, List.map_cons, List.map_nil]); first | done | rfl | (simp only [List.length_drop, List.length_take]; rfl)) ?_; (with_reducible refine (bucket_Bucket_End.calls g180 t201 t202 t203 t204 t205 t206 w _ ?side1 ?side2 A40.out).mono ?_); (case side1 => repeat (first | (with_reducible first | exact HI180.out | apply IsS62.alloc | apply IsS62.drewN | apply IsS62.drew | apply IsS62.set_0 | apply IsS62.set_1 | apply IsS62.set_2 | refine IsS62.far ?_ NB180_184.out _) | exact HI180.out)); (case side2 => repeat (first | (with_reducible first | exact HB.out | apply below_alloc | apply pw_below_drewN | apply below_drew1 | refine below_set ?_ (IsS62.ge HI180.out) | refine below_set ?_ GE184.out) | exact HB.out)); rintro e w55 ⟨rfl, hi, hb, hk⟩; refine ⟨_, rfl, ?_⟩; have n0_ := Aside0.mk (KeepBut.blk hk (g' := gb184) (o := .cells #[.int .u64 ((rd_T33 l1 x47_3).f0), .slice A183_1 ((rd_T33 l1 x47_3).f1).length c183_1] 33 (0, 0)) (by (with_reducible repeat (first | refine blk_drewN ?_ _ | refine blk_drew ?_ | refine blk_alloc ?_ _)); exact BK184.out) NB184_180.out (by simp)); have n1_ := Aside0.mk (hb); have n2_ := Aside0.mk (hi); clear BK184; clear HB; clear HI180; have BK184 := n0_; have HB := n1_; have HI180 := n2_; clear n0_ n1_ n2_; (try clear hb); (try clear hb2); (try clear hk); (try clear hi)) | ((with_reducible refine gate_callee (f := 18) rfl ?_); refine goesL_ (some 99) rfl rfl Try.func18 (by kernel_rfl) rfl #[.int .u64 x7_4, .int .i64 a0] rfl (by (try simp only [List.map_toArray, List.map_cons, List.map_nil]); first | done | rfl | (simp only [List.length_drop, List.length_take]; rfl)) ?_; (with_reducible refine (terraceref20_End.calls x7_4 a0 t207 _ A41.out).mono ?_); rintro e w' ⟨rfl, ⟨nd, rfl⟩⟩; refine ⟨_, rfl, ?_⟩) | ((with_reducible refine gate_callee (f := 16) rfl ?_); refine goesL_ (some 101) rfl rfl Try.func16 (by kernel_rfl) rfl #[.pointer (some ⟨g180, 0, none⟩)] rfl (by (try simp only [List.map_toArray, List.map_cons, List.map_nil]); first | done | rfl | (simp only [List.length_drop, List.length_take]; rfl)) ?_; (with_reducible refine (bucket_Bucket_Tokens.calls g180 t204 t205 t206 t208 t209 t210 t211 w _ ?side1 ?side2 A42.out).mono ?_); (case side1 => repeat (first | (with_reducible first | exact HI180.out | apply IsS62.alloc | apply IsS62.drewN | apply IsS62.drew | apply IsS62.set_0 | apply IsS62.set_1 | apply IsS62.set_2 | refine IsS62.far ?_ NB180_184.out _) | exact HI180.out)); (case side2 => repeat (first | (with_reducible first | exact HB.out | apply below_alloc | apply pw_below_drewN | apply below_drew1 | refine below_set ?_ (IsS62.ge HI180.out) | refine below_set ?_ GE184.out) | exact HB.out)); rintro e w56 ⟨rfl, hi, hb, hk⟩; refine ⟨_, rfl, ?_⟩; have n0_ := Aside0.mk (KeepBut.blk hk (g' := gb184) (o := .cells #[.int .u64 ((rd_T33 l1 x47_3).f0), .slice A183_1 ((rd_T33 l1 x47_3).f1).length c183_1] 33 (0, 0)) (by (with_reducible repeat (first | refine blk_drewN ?_ _ | refine blk_drew ?_ | refine blk_alloc ?_ _)); exact BK184.out) NB184_180.out (by simp)); have n1_ := Aside0.mk (hb); have n2_ := Aside0.mk (hi); clear BK184; clear HB; clear HI180; have BK184 := n0_; have HB := n1_; have HI180 := n2_; clear n0_ n1_ n2_; (try clear hb); (try clear hb2); (try clear hk); (try clear hi)))
                                      go_ret
                                      exact ⟨by first | rfl | (simp [errW_none, errW_some] <;> rfl) | (simp [*, errW_none, errW_some] <;> rfl), by repeat (first | (with_reducible first | exact HB.out | apply below_alloc | apply pw_below_drewN | apply below_drew1 | refine below_set ?_ (IsS62.ge HI180.out) | refine below_set ?_ GE184.out) | exact HB.out)⟩
                                  · rw [if_neg c39] at H
                                    have c39b0 : (t200 == x7_4) = false := beq_eq_false_iff_ne.mpr c39
                                    have c39b1 : (t200 != x7_4) = true := bne_iff_ne.mpr c39
                                    obtain rfl := Option.some.inj H
                                    go_wp2_with (first | ((with_reducible refine gate_callee (f := 16) rfl ?_); refine goesL_ (some 92) rfl rfl Try.func16 (by kernel_rfl) rfl #[.pointer (some ⟨g180, 0, none⟩)] rfl (by (try simp only [List.map_toArray, List.map_cons, List.map_nil]); first | done | rfl | (simp only [List.length_drop, List.length_take]; rfl)) ?_; (with_reducible refine (bucket_Bucket_Tokens.calls g180 x181000_4 x181001_4 x181002_4 t200 t201 t202 t203 w _ ?side1 ?side2 A38.out).mono ?_); (case side1 => repeat (first | (with_reducible first | exact HI180.out | apply IsS62.alloc | apply IsS62.drewN | apply IsS62.drew | apply IsS62.set_0 | apply IsS62.set_1 | apply IsS62.set_2 | refine IsS62.far ?_ NB180_184.out _) | exact HI180.out)); (case side2 => repeat (first | (with_reducible first | exact HB.out | apply below_alloc | apply pw_below_drewN | apply below_drew1 | refine below_set ?_ (IsS62.ge HI180.out) | refine below_set ?_ GE184.out) | exact HB.out)); rintro e w57 ⟨rfl, hi, hb, hk⟩; refine ⟨_, rfl, ?_⟩; have n0_ := Aside0.mk (KeepBut.blk hk (g' := gb184) (o := .cells #[.int .u64 ((rd_T33 l1 x47_3).f0), .slice A183_1 ((rd_T33 l1 x47_3).f1).length c183_1] 33 (0, 0)) (by (with_reducible repeat (first | refine blk_drewN ?_ _ | refine blk_drew ?_ | refine blk_alloc ?_ _)); exact BK184.out) NB184_180.out (by simp)); have n1_ := Aside0.mk (hb); have n2_ := Aside0.mk (hi); clear BK184; clear HB; clear HI180; have BK184 := n0_; have HB := n1_; have HI180 := n2_; clear n0_ n1_ n2_; (try clear hb); (try clear hb2); (try clear hk); (try clear hi)))
                                    go_ret
                                    exact ⟨by first | rfl | (simp [errW_none, errW_some] <;> rfl) | (simp [*, errW_none, errW_some] <;> rfl), by repeat (first | (with_reducible first | exact HB.out | apply below_alloc | apply pw_below_drewN | apply below_drew1 | refine below_set ?_ (IsS62.ge HI180.out) | refine below_set ?_ GE184.out) | exact HB.out)⟩
                          · rw [if_neg c17] at H
                            exact absurd H (by simp)
                        · rw [if_neg c16] at H
                          exact absurd H (by simp)
                      · rw [if_neg c15] at H
                        have c15b0 : decide (x47_3 < (l1.length : Int)) = false := decide_eq_false c15
                        clear c15
                        replace H := Option.bind_eq_some_iff.mp H
                        obtain ⟨t182, A580, H⟩ := H
                        replace H : (some t182) = some r := H
                        have A58 := Aside0.mk A580
                        clear A580
                        obtain rfl := Option.some.inj H
                        go_wp2_with (first | ((with_reducible refine gate_callee (f := 9) rfl ?_); refine goesL_ (some 111) rfl rfl Try.func9 (by kernel_rfl) rfl #[] rfl (by (try simp only [List.map_toArray, List.map_cons, List.map_nil]); first | done | rfl | (simp only [List.length_drop, List.length_take]; rfl)) ?_; (with_reducible refine (terracelaw20_awake.calls k3  t182 _ A58.out).mono ?_); rintro e w59 ⟨rfl, hb⟩; refine ⟨_, rfl, ?_⟩; have n0_ := Aside0.mk (IsS62.below (by repeat (first | (with_reducible first | exact HI180.out | apply IsS62.alloc | apply IsS62.drewN | apply IsS62.drew | apply IsS62.set_0 | apply IsS62.set_1 | apply IsS62.set_2) | exact HI180.out)) hb); have n1_ := Aside0.mk (below_step (by repeat (first | (with_reducible first | exact HB.out | apply below_alloc | apply pw_below_drewN | apply below_drew1 | refine below_set ?_ (IsS62.ge HI180.out)) | exact HB.out)) hb); clear HI180; clear HB; have HI180 := n0_; have HB := n1_; clear n0_ n1_; (try clear hb); (try clear hb2); (try clear hk); (try clear hi)))
                        go_ret
                        exact ⟨by first | rfl | (simp [errW_none, errW_some] <;> rfl) | (simp [*, errW_none, errW_some] <;> rfl), by repeat (first | (with_reducible first | exact HB.out | apply below_alloc | apply pw_below_drewN | apply below_drew1 | refine below_set ?_ (IsS62.ge HI180.out)) | exact HB.out)⟩
    · rw [if_neg c5] at H
      have c5b0 : bucket_New.ok a0 = false := by simpa using c5
      clear c5
      replace H := Option.bind_eq_some_iff.mp H
      obtain ⟨t216, A600, H⟩ := H
      replace H : (if a0 < 1 then (terracelaw20_BucketPlays.j5 k t216 true) else (terracelaw20_BucketPlays.j5 k t216 (decide (a0 > 320)))) = some r := H
      have A60 := Aside0.mk A600
      clear A600
      have HC61 := Aside0.mk H
      clear H
      go_enter Try.func3, Try.ntmps3
      go_upto_region 4 with (first | ((with_reducible refine gate_callee (f := 8) rfl ?_); refine goesL_ (some 16) rfl rfl Try.func8 (by kernel_rfl) rfl #[.slice A1 l1.length c1] rfl (by (try simp only [List.map_toArray, List.map_cons, List.map_nil]); first | done | rfl | (simp only [List.length_drop, List.length_take]; rfl)) ?_; (with_reducible refine (terracelaw20_small.calls k _ _ l1 true _ ?side1 ?side2 A3.out).mono ?_); (case side1 => repeat (first | exact HR1.out | (with_reducible refine Kd.C_alloc ?_ _) | (with_reducible refine Kd.C_drewN ?_ _) | (with_reducible refine Kd.C_drew ?_))); (case side2 => exact HC1.out); rintro e w62 ⟨rfl, hb⟩; refine ⟨_, rfl, ?_⟩; have n0_ := Aside0.mk (below_step (by repeat (first | (with_reducible first | exact HB.out | apply below_alloc | apply pw_below_drewN | apply below_drew1) | exact HB.out)) hb); clear HB; have HB := n0_; clear n0_; (try clear hb); (try clear hb2); (try clear hk); (try clear hi)) | ((with_reducible refine gate_callee (f := 10) rfl ?_); refine goesL_ (some 21) rfl rfl Try.func10 (by kernel_rfl) rfl #[.int .i64 a0] rfl (by (try simp only [List.map_toArray, List.map_cons, List.map_nil]); first | done | rfl | (simp only [List.length_drop, List.length_take]; rfl)) ?_; (with_reducible refine (bucket_New_no.calls a0 t216 _ A60.out).mono ?_); rintro e w63 ⟨rfl, hb⟩; refine ⟨_, rfl, ?_⟩; have n0_ := Aside0.mk (below_step (by repeat (first | (with_reducible first | exact HB.out | apply below_alloc | apply pw_below_drewN | apply below_drew1) | exact HB.out)) hb); clear HB; have HB := n0_; clear n0_; (try clear hb); (try clear hb2); (try clear hk); (try clear hi)))
      (try simp only [Act.put, List.setIfInBounds_toArray, List.set_cons_zero, List.set_cons_succ])
      go_cut [29] (fun v29 wc => ∃ (kq : Nat) (x29_60 : Bool), v29 = .bool x29_60 ∧ Aside0 (terracelaw20_BucketPlays.j5 kq t216 x29_60 = some r) ∧ Aside0 (kq ≤ k) ∧ Aside0 (Below w.heap.size w wc))
      case first =>
        have H := HC61.out
        clear HC61
        by_cases c64 : a0 < 1
        · rw [if_pos c64] at H
          have c64b0 : decide (a0 < 1) = true := decide_eq_true c64
          clear c64
          (first | rw [c64b0] | (simp only [i64_w, i32_w]; rw [c64b0]) | skip)
          have H' := Aside0.mk H
          clear H
          go_wp2
          go_meet
          case rel => exact ⟨_, (true), (by first | rfl | (simp; done) | (simp [*]; done)), H', ⟨by first | omega | exact Nat.le_refl _⟩, ⟨by repeat (first | (with_reducible first | exact HB.out | apply below_alloc | apply pw_below_drewN | apply below_drew1) | exact HB.out)⟩⟩
        · rw [if_neg c64] at H
          have c64b0 : decide (a0 < 1) = false := decide_eq_false c64
          clear c64
          (first | rw [c64b0] | (simp only [i64_w, i32_w]; rw [c64b0]) | skip)
          have H' := Aside0.mk H
          clear H
          go_wp2
          go_meet
          case rel => exact ⟨_, (decide (a0 > 320)), (by first | rfl | (simp; done) | (simp [*]; done)), H', ⟨by first | omega | exact Nat.le_refl _⟩, ⟨by repeat (first | (with_reducible first | exact HB.out | apply below_alloc | apply pw_below_drewN | apply below_drew1) | exact HB.out)⟩⟩
      case rest =>
        clear HC61
        try clear c1
        try clear p1
        try clear q1
        try clear hx1
        try clear c2
        try clear p2
        try clear c3
        try clear c4
        try clear c5
        try clear c5b0
        try clear c6
        try clear p6
        try clear c8
        try clear c9
        try clear c10
        try clear c10b0
        try clear c11
        try clear c12
        try clear c13
        try clear c13b0
        try clear c13b1
        try clear c14
        try clear c15
        try clear c15b0
        try clear c16
        try clear c16b0
        try clear c17
        try clear c17b0
        try clear c18
        try clear p18
        try clear q18
        try clear hx18
        try clear c21
        try clear c25
        try clear c25b0
        try clear c26
        try clear c26b0
        try clear c27
        try clear c27b0
        try clear c31
        try clear c31b0
        try clear c31b1
        try clear c31b2
        try clear c36
        try clear c37
        try clear c39
        try clear c39b0
        try clear c39b1
        try clear c43
        try clear c43b0
        try clear c43b1
        try clear c45
        try clear c45b0
        try clear c45b1
        try clear c64
        try clear c64b0
        try clear p64
        try clear hcz22_0
        try clear hcz22_1
        try clear hcz24_0
        try clear hcz24_1
        try clear hfz22_0
        try clear hfz22_1
        try clear hfz24_0
        try clear hfz24_1
        try clear hx183_0
        try clear hx183_1
        try clear hx189_0
        try clear p1
        try clear p18
        try clear p183
        try clear p189
        try clear p2
        try clear q1
        try clear q18
        try clear q183
        try clear q189
        obtain ⟨kq, x29_60, rfl, HA, HJ60, HB⟩ := hcut
        cases kq with
        | zero => exact absurd HA.out (by simp [terracelaw20_BucketPlays.j5])
        | succ kj60 =>
          have H := HA.out
          clear HA
          simp only [terracelaw20_BucketPlays.j5] at H
          by_cases c65 : x29_60 = true
          · subst c65
            have H1 : (if t216 = 11 then ((terracelaw20_awake.f kj60).bind fun t217 => (some t217)) else (some false)) = some r := by rw [if_pos rfl] at H; exact H
            clear H
            have H := H1
            clear H1
            by_cases c66 : t216 = 11
            · rw [if_pos c66] at H
              have c66b0 : (t216 == 11) = true := beq_iff_eq.mpr c66
              have c66b1 : (t216 != 11) = false := bne_eq_false_iff_eq.mpr c66
              clear c66
              replace H := Option.bind_eq_some_iff.mp H
              obtain ⟨t217, A670, H⟩ := H
              replace H : (some t217) = some r := H
              have A67 := Aside0.mk A670
              clear A670
              obtain rfl := Option.some.inj H
              go_wp2_with (first | (go_at_call 9; (with_reducible refine (terracelaw20_awake.calls kj60  t217 _ A67.out).mono ?_); rintro e w68 ⟨rfl, hb⟩; have n0_ := Aside0.mk (below_step (by repeat (first | (with_reducible first | exact HB.out | apply below_alloc | apply pw_below_drewN | apply below_drew1) | exact HB.out)) hb); clear HB; have HB := n0_; clear n0_; (try clear hb); (try clear hb2); (try clear hk); (try clear hi)))
              go_ret
              exact ⟨by first | rfl | (simp [errW_none, errW_some] <;> rfl) | (simp [*, errW_none, errW_some] <;> rfl), by repeat (first | (with_reducible first | exact HB.out | apply below_alloc | apply pw_below_drewN | apply below_drew1) | exact HB.out)⟩
            · rw [if_neg c66] at H
              have c66b0 : (t216 == 11) = false := beq_eq_false_iff_ne.mpr c66
              have c66b1 : (t216 != 11) = true := bne_iff_ne.mpr c66
              obtain rfl := Option.some.inj H
              go_wp2
              go_ret
              exact ⟨by first | rfl | (simp [errW_none, errW_some] <;> rfl) | (simp [*, errW_none, errW_some] <;> rfl), by repeat (first | (with_reducible first | exact HB.out | apply below_alloc | apply pw_below_drewN | apply below_drew1) | exact HB.out)⟩
          · replace c65 := Bool.eq_false_iff.mpr c65
            subst c65
            have H1 : (if t216 = 0 then (terracelaw20_BucketPlays.j6 kj60 true) else (terracelaw20_BucketPlays.j6 kj60 true)) = some r := by rw [if_neg (show ¬ (false = true) by decide)] at H; exact H
            clear H
            have H := H1
            clear H1
            have HC69 := Aside0.mk H
            clear H
            go_upto_region 6 with (fail)
            go_cut [44] (fun v44 wc => ∃ (kq : Nat) (x44_68 : Bool), v44 = .bool x44_68 ∧ Aside0 (terracelaw20_BucketPlays.j6 kq x44_68 = some r) ∧ Aside0 (kq ≤ kj60) ∧ Aside0 (Below w.heap.size w wc))
            case first =>
              have H := HC69.out
              clear HC69
              by_cases c70 : t216 = 0
              · rw [if_pos c70] at H
                have c70b0 : (t216 == 0) = true := beq_iff_eq.mpr c70
                have c70b1 : (t216 != 0) = false := bne_eq_false_iff_eq.mpr c70
                clear c70
                (first | rw [c70b0] | (simp only [i64_w, i32_w]; rw [c70b0]) | skip)
                have H' := Aside0.mk H
                clear H
                go_wp2
                go_meet
                case rel => exact ⟨_, (true), (by first | rfl | (simp; done) | (simp [*]; done)), H', ⟨by have := HJ60.out; first | omega | exact Nat.le_refl _⟩, ⟨by repeat (first | (with_reducible first | exact HB.out | apply below_alloc | apply pw_below_drewN | apply below_drew1) | exact HB.out)⟩⟩
              · rw [if_neg c70] at H
                have c70b0 : (t216 == 0) = false := beq_eq_false_iff_ne.mpr c70
                have c70b1 : (t216 != 0) = true := bne_iff_ne.mpr c70
                (first | rw [c70b0] | (simp only [i64_w, i32_w]; rw [c70b0]) | skip)
                have H' := Aside0.mk H
                clear H
                go_wp2
                go_meet
                case rel => exact ⟨_, (true), (by first | rfl | (simp; done) | (simp [*]; done)), H', ⟨by have := HJ60.out; first | omega | exact Nat.le_refl _⟩, ⟨by repeat (first | (with_reducible first | exact HB.out | apply below_alloc | apply pw_below_drewN | apply below_drew1) | exact HB.out)⟩⟩
            case rest =>
              clear HC69
              try clear c1
              try clear p1
              try clear q1
              try clear hx1
              try clear c2
              try clear p2
              try clear c3
              try clear c4
              try clear c5
              try clear c5b0
              try clear c6
              try clear p6
              try clear c7
              try clear c8
              try clear c9
              try clear c10
              try clear c10b0
              try clear c11
              try clear c12
              try clear c13
              try clear c13b0
              try clear c13b1
              try clear c14
              try clear c15
              try clear c15b0
              try clear c16
              try clear c16b0
              try clear c17
              try clear c17b0
              try clear c18
              try clear p18
              try clear q18
              try clear hx18
              try clear c21
              try clear c25
              try clear c25b0
              try clear c26
              try clear c26b0
              try clear c27
              try clear c27b0
              try clear c31
              try clear c31b0
              try clear c31b1
              try clear c31b2
              try clear c36
              try clear c37
              try clear c39
              try clear c39b0
              try clear c39b1
              try clear c43
              try clear c43b0
              try clear c43b1
              try clear c45
              try clear c45b0
              try clear c45b1
              try clear c64
              try clear c64b0
              try clear p64
              try clear c65
              try clear c66
              try clear c66b0
              try clear c66b1
              try clear c70
              try clear c70b0
              try clear c70b1
              try clear hcz22_0
              try clear hcz22_1
              try clear hcz24_0
              try clear hcz24_1
              try clear hfz22_0
              try clear hfz22_1
              try clear hfz24_0
              try clear hfz24_1
              try clear hx183_0
              try clear hx183_1
              try clear hx189_0
              try clear p1
              try clear p18
              try clear p183
              try clear p189
              try clear p2
              try clear p6
              try clear p64
              try clear q1
              try clear q18
              try clear q183
              try clear q189
              obtain ⟨kq, x44_68, rfl, HA, HJ68, HB⟩ := hcut
              cases kq with
              | zero => exact absurd HA.out (by simp [terracelaw20_BucketPlays.j6])
              | succ kj68 =>
                have H := HA.out
                clear HA
                simp only [terracelaw20_BucketPlays.j6] at H
                by_cases c71 : x44_68 = true
                · subst c71
                  have H1 : (some false) = some r := by rw [if_pos rfl] at H; exact H
                  clear H
                  have H := H1
                  clear H1
                  obtain rfl := Option.some.inj H
                  go_wp2
                  go_ret
                  exact ⟨by first | rfl | (simp [errW_none, errW_some] <;> rfl) | (simp [*, errW_none, errW_some] <;> rfl), by repeat (first | (with_reducible first | exact HB.out | apply below_alloc | apply pw_below_drewN | apply below_drew1) | exact HB.out)⟩
                · replace c71 := Bool.eq_false_iff.mpr c71
                  subst c71
                  have H1 : (none) = some r := by rw [if_neg (show ¬ (false = true) by decide)] at H; exact H
                  clear H
                  have H := H1
                  clear H1
                  exact absurd H (by simp)
  · replace c4 := Bool.eq_false_iff.mpr c4
    subst c4
    have H1 : ((terracelaw20_awake.f k).bind fun t176 => (some t176)) = some r := by rw [if_neg (show ¬ (false = true) by decide)] at H; exact H
    clear H
    have H := H1
    clear H1
    replace H := Option.bind_eq_some_iff.mp H
    obtain ⟨t176, A720, H⟩ := H
    replace H : (some t176) = some r := H
    have A72 := Aside0.mk A720
    clear A720
    obtain rfl := Option.some.inj H
    go_enter Try.func3, Try.ntmps3
    go_wp2_with (first | ((with_reducible refine gate_callee (f := 8) rfl ?_); refine goesL_ (some 16) rfl rfl Try.func8 (by kernel_rfl) rfl #[.slice A1 l1.length c1] rfl (by (try simp only [List.map_toArray, List.map_cons, List.map_nil]); first | done | rfl | (simp only [List.length_drop, List.length_take]; rfl)) ?_; (with_reducible refine (terracelaw20_small.calls k _ _ l1 false _ ?side1 ?side2 A3.out).mono ?_); (case side1 => repeat (first | exact HR1.out | (with_reducible refine Kd.C_alloc ?_ _) | (with_reducible refine Kd.C_drewN ?_ _) | (with_reducible refine Kd.C_drew ?_))); (case side2 => exact HC1.out); rintro e w73 ⟨rfl, hb⟩; refine ⟨_, rfl, ?_⟩; have n0_ := Aside0.mk (below_step (by repeat (first | (with_reducible first | exact HB.out | apply below_alloc | apply pw_below_drewN | apply below_drew1) | exact HB.out)) hb); clear HB; have HB := n0_; clear n0_; (try clear hb); (try clear hb2); (try clear hk); (try clear hi)) | ((with_reducible refine gate_callee (f := 9) rfl ?_); refine goesL_ (some 18) rfl rfl Try.func9 (by kernel_rfl) rfl #[] rfl (by (try simp only [List.map_toArray, List.map_cons, List.map_nil]); first | done | rfl | (simp only [List.length_drop, List.length_take]; rfl)) ?_; (with_reducible refine (terracelaw20_awake.calls k  t176 _ A72.out).mono ?_); rintro e w74 ⟨rfl, hb⟩; refine ⟨_, rfl, ?_⟩; have n0_ := Aside0.mk (below_step (by repeat (first | (with_reducible first | exact HB.out | apply below_alloc | apply pw_below_drewN | apply below_drew1) | exact HB.out)) hb); clear HB; have HB := n0_; clear n0_; (try clear hb); (try clear hb2); (try clear hk); (try clear hi)))
    go_ret
    exact ⟨by first | rfl | (simp [errW_none, errW_some] <;> rfl) | (simp [*, errW_none, errW_some] <;> rfl), by repeat (first | (with_reducible first | exact HB.out | apply below_alloc | apply pw_below_drewN | apply below_drew1) | exact HB.out)⟩

def okS33 (x : S33) : Prop := ((Lit.int .u64 x.f0).wf = true) ∧ (x.f1.length ≤ maxLen ∧ ∀ y_ ∈ x.f1, (Lit.int .i64 y_).wf = true)
/-- THE ONE PURE STATEMENT of terracelaw20_BucketPlays. -/
def terracelaw20_BucketPlays.Pure : Prop := ∀ (a0 : Int) (l1 : List (S33)), (Lit.int .i64 a0).wf = true → l1.length ≤ maxLen → (∀ y_ ∈ l1, okS33 y_) → ∃ k, terracelaw20_BucketPlays.f k a0 l1 = some true

end Go.Proofs.Ytkaglddebpmcmaa.PBucketPlays
