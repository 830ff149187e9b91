/- Proved: of samples that all last as long the guess is that, but for what is rounded (for every input that the statement's guards let in; the Go function returns true and leaves its arguments as they were). -/
import Derived.Test.YtbcbmgdnkagmmaaPTripSteadyx2
set_option linter.unusedVariables false
set_option linter.unusedSimpArgs false
namespace Go.Proofs.Ytbcbmgdnkagmmaa.Pure
open Go.RowKit Go.Proofs.Ytbcbmgdnkagmmaa.PTripSteady Go.Proofs.YtbcbmgdnkagmmaaW.PrintWords Go.Proofs.YtbcbmgdnkagmmaaW.PrintLast Go.Proofs.YtbcbmgdnkagmmaaW.PrintMore

theorem wf_u8 {a : Int} (h : (Lit.int .u8 a).wf = true) : 0 ≤ a ∧ a ≤ 255 := by
  simpa [Lit.wf, IntKind.min, IntKind.max, IntKind.signed, IntKind.bits] using h
theorem wf_u16 {a : Int} (h : (Lit.int .u16 a).wf = true) : 0 ≤ a ∧ a ≤ 65535 := by
  simpa [Lit.wf, IntKind.min, IntKind.max, IntKind.signed, IntKind.bits] using h
theorem wf_u32 {a : Int} (h : (Lit.int .u32 a).wf = true) : 0 ≤ a ∧ a ≤ 4294967295 := by
  simpa [Lit.wf, IntKind.min, IntKind.max, IntKind.signed, IntKind.bits] using h
theorem wf_u64 {a : Int} (h : (Lit.int .u64 a).wf = true) : 0 ≤ a ∧ a ≤ 18446744073709551615 := by
  simpa [Lit.wf, IntKind.min, IntKind.max, IntKind.signed, IntKind.bits] using h
theorem wf_i64 {a : Int} (h : (Lit.int .i64 a).wf = true) : -9223372036854775808 ≤ a ∧ a ≤ 9223372036854775807 := by
  simpa [Lit.wf, IntKind.min, IntKind.max, IntKind.signed, IntKind.bits] using h
theorem w64 {n : Int} (h : -9223372036854775808 ≤ n) (h' : n ≤ 9223372036854775807) : wrap64 n = n := by
  unfold wrap64; omega
theorem fuel {k n : Nat} (h : n < k) : ∃ m, k = m + 1 ∧ n ≤ m := ⟨k - 1, by omega, by omega⟩
theorem u64 {n : Int} (h : 0 ≤ n) (h' : n ≤ 18446744073709551615) : IntKind.u64.wrap n = n := by
  simp only [IntKind.wrap, IntKind.bits, IntKind.signed]; simp; omega
theorem wu (n : Int) : IntKind.u64.wrap n = n % 18446744073709551616 := by
  simp [IntKind.wrap, IntKind.bits, IntKind.signed]
theorem wraps_u64 (n : Int) (h0 : 0 ≤ n) (h1 : n < 2 ^ 64) : IntKind.u64.wrap n = n := by rw [wu]; omega
theorem and32 (x : Int) (h0 : 0 ≤ x) (h1 : x < 18446744073709551616) : Go.bits .and .u64 x 4294967295 = x % 4294967296 :=
  bits_mask .u64 64 (by decide) wraps_u64 32 (by decide) x h0 h1
theorem or_join (i : Nat) (x y : Int) (h0 : 0 ≤ x) (h1 : x % 2 ^ i = 0) (h2 : x < 18446744073709551616) (h3 : 0 ≤ y) (h4 : y < 2 ^ i) (h5 : y < 18446744073709551616) : Go.bits .or .u64 x y = x + y :=
  bits_join .u64 64 (by decide) wraps_u64 i x y h0 h1 h2 h3 h4 h5
theorem shl_u (x y : Int) (h0 : 0 ≤ y) (h1 : y ≤ 64) : shl .u64 x y = (x * 2 ^ y.toNat) % 18446744073709551616 := by
  unfold shl; rw [wu, show min y.toNat (IntKind.bits .u64) = y.toNat from Nat.min_eq_left (by simp [IntKind.bits]; omega)]
theorem shr_u (x y : Int) (h0 : 0 ≤ y) (h1 : y ≤ 64) : shr .u64 x y = x / 2 ^ y.toNat := by
  unfold shr; rw [show min y.toNat (IntKind.bits .u64) = y.toNat from Nat.min_eq_left (by simp [IntKind.bits]; omega)]
/-- one call behind another (no unfolding: the kernel need not look into what is called) -/
theorem bs {α β : Type} {x : Option α} {f : α → Option β} {a : α} {r : Option β} (h : x = some a) (h2 : f a = r) : x.bind f = r := by
  subst h; exact h2
def addv (a b : Int) : Int := if a + b > 18446744073709551615 then 18446744073709551615 else a + b
theorem add_f (a b : Int) (ha : 0 ≤ a ∧ a ≤ 18446744073709551615) (hb : 0 ≤ b ∧ b ≤ 18446744073709551615) : fix_F_Add.f a b = some (addv a b) := by
  unfold fix_F_Add.f addv addC addS
  by_cases h : a + b > 18446744073709551615
  · rw [if_neg (by omega), if_pos h]
  · rw [if_pos (by omega), if_neg h]; congr 1; omega
theorem addv_range (a b : Int) (ha : 0 ≤ a ∧ a ≤ 18446744073709551615) (hb : 0 ≤ b ∧ b ≤ 18446744073709551615) : 0 ≤ addv a b ∧ addv a b ≤ 18446744073709551615 := by
  unfold addv; split <;> omega
def subv (a b : Int) : Int := if b > a then 0 else a - b
theorem sub_f (a b : Int) (ha : 0 ≤ a ∧ a ≤ 18446744073709551615) (hb : 0 ≤ b ∧ b ≤ 18446744073709551615) : fix_F_Sub.f a b = some (subv a b) := by
  unfold fix_F_Sub.f subv
  split
  · rfl
  · rw [wu]; congr 1; omega
theorem awake16_k {k : Nat} (hk : 100 ≤ k) : terracelaw16_awake.f k = some true :=
  at_rounds (g := fun k => terracelaw16_awake.f k) (fun k => terracelaw16_awake.mono k) hk (by decide +kernel)
def taken (a b c : Int) : Prop := (0 ≤ a ∧ a ≤ 1099511627776) ∧ (0 ≤ b ∧ b ≤ 1099511627776) ∧ (0 ≤ c ∧ c ≤ 1099511627776) ∧ 0 ≤ a - b - c ∧ a - b - c ≤ 1048576
instance (a b c : Int) : Decidable (taken a b c) := by unfold taken; infer_instance
def nxt (g n x : Int) : Int := if n = 0 then x * 4294967296 else g - g / 8 + x * 536870912
def Gr (g : Int) : Prop := 4294967296 ≤ g ∧ g ≤ 18446744073709551615
theorem nxt_range (g n x : Int) (hg : Gr g) (hx : 1 ≤ x ∧ x ≤ 1048576) : Gr (nxt g n x) := by
  unfold nxt Gr at *; split <;> omega
theorem of_f (a : Int) (h0 : 0 ≤ a) (h1 : a ≤ 4294967295) : fix_Of.f a = some (a * 4294967296) := by
  unfold fix_Of.f; rw [u64 h0 (by omega), u64 (by omega) (by omega)]
theorem time_f (a : Int) : trip_time.f a = some (decide (0 ≤ a ∧ a ≤ 1099511627776)) := by
  unfold trip_time.f
  by_cases h : a ≥ 0
  · rw [if_pos h]; congr 1; simp [show 0 ≤ a from h]
  · rw [if_neg h]; congr 1; simp; omega
theorem smooth_f (g x : Int) (hg : Gr g) (hx : 1 ≤ x ∧ x ≤ 1048576) : meter_Smooth.f g (x * 4294967296) 3 = some (g - g / 8 + x * 536870912) := by
  unfold meter_Smooth.f Gr at *
  rw [if_neg (by decide)]
  have e1 : fix_F_Half.f g 3 = some (g / 8) := by
    unfold fix_F_Half.f; rw [show mx 3 0 = 3 by decide, shr_u _ _ (by omega) (by omega)]; rfl
  refine bs e1 ?_
  have e2 : fix_F_Sub.f g (g / 8) = some (g - g / 8) := by
    unfold fix_F_Sub.f; rw [if_neg (by omega), u64 (by omega) (by omega)]
  refine bs e2 ?_
  have e3 : fix_F_Half.f (x * 4294967296) 3 = some (x * 536870912) := by
    unfold fix_F_Half.f; rw [show mx 3 0 = 3 by decide, shr_u _ _ (by omega) (by omega), show (2 : Int) ^ (3 : Int).toNat = 8 from rfl]; congr 1; omega
  refine bs e3 ?_
  refine bs (add_f _ _ (by omega) (by omega)) ?_
  congr 1; unfold addv; split <;> omega
theorem sample_f (g n a b c : Int) (hg : Gr g) (hn : 0 ≤ n ∧ n ≤ 1000000) {k : Nat} (hk : 10 ≤ k) :
    trip_Trip_Sample.f k g n a b c = some (if taken a b c then (0, nxt g n (mx (a - b - c) 1), n + 1) else (11, g, n)) := by
  obtain ⟨k, rfl⟩ : ∃ m, k = m + 1 + 1 := ⟨k - 2, by omega⟩
  have j0t : ∀ b1, b1 = true → trip_Trip_Sample.j0 (k + 1 + 1) a b c b1 g n = some (11, g, n) := by
    rintro b1 rfl
    simp only [trip_Trip_Sample.j0]; rw [if_pos trivial]
  have j1t : ∀ y b1, b1 = true → trip_Trip_Sample.j1 (k + 1) y b1 g n = some (11, g, n) := by
    rintro y b1 rfl
    simp only [trip_Trip_Sample.j1]; rw [if_pos trivial]
  unfold trip_Trip_Sample.f
  refine bs (time_f a) ?_
  by_cases ha : 0 ≤ a ∧ a ≤ 1099511627776
  rotate_left
  · rw [if_neg (by simpa using ha), if_neg (fun h => ha h.1)]; exact j0t _ rfl
  rw [if_pos (by simpa using ha)]
  refine bs (time_f b) ?_
  by_cases hb : 0 ≤ b ∧ b ≤ 1099511627776
  rotate_left
  · rw [if_neg (by simpa using hb), if_neg (fun h => hb h.2.1)]; exact j0t _ rfl
  rw [if_pos (by simpa using hb)]
  refine bs (time_f c) ?_
  by_cases hc : 0 ≤ c ∧ c ≤ 1099511627776
  rotate_left
  · rw [if_neg (fun h => hc h.2.2.1)]; exact j0t _ (by simp; omega)
  simp only [trip_Trip_Sample.j0]
  rw [if_neg (by simp; omega)]
  rw [w64 (n := a - b) (by omega) (by omega), w64 (n := a - b - c) (by omega) (by omega)]
  by_cases h0 : a - b - c < 0
  · rw [if_pos h0, if_neg (fun h => by unfold taken at h; omega)]; exact j1t _ _ rfl
  rw [if_neg h0]
  by_cases h1 : a - b - c > 1048576
  · rw [if_neg (fun h => by unfold taken at h; omega)]; exact j1t _ _ (by simpa using h1)
  have hm : 1 ≤ mx (a - b - c) 1 ∧ mx (a - b - c) 1 ≤ 1048576 := by unfold mx; split <;> omega
  rw [if_pos (show taken a b c by unfold taken; omega)]
  simp only [trip_Trip_Sample.j1]
  rw [if_neg (by simpa using h1)]
  rw [show mx (a - b - c) 1 % 4294967296 = mx (a - b - c) 1 by omega]
  refine bs (of_f _ (by omega) (by omega)) ?_
  by_cases hn0 : n > 0
  · rw [if_pos hn0]
    refine bs (smooth_f g _ hg hm) ?_
    unfold nxt Gr at *
    rw [if_neg (by omega), w64 (by omega) (by omega)]
    congr 2
    unfold mx; rw [if_neg]; split <;> omega
  · rw [if_neg hn0, w64 (by omega) (by omega)]
    unfold nxt; rw [if_pos (by omega)]
theorem ticks_f (g n : Int) (hg : Gr g) : trip_Trip_Ticks.f g n = some ((g + 4294967295) / 4294967296, g, n) := by
  unfold trip_Trip_Ticks.f Gr at *
  have e : fix_F_Whole.f g = some (g / 4294967296) := by unfold fix_F_Whole.f; congr 1; omega
  refine bs e ?_
  refine bs (of_f _ (by omega) (by omega)) ?_
  rw [w64 (n := g / 4294967296) (by omega) (by omega)]
  by_cases h : g / 4294967296 * 4294967296 < g
  · rw [if_pos h, w64 (by omega) (by omega)]; congr 2; omega
  · rw [if_neg h]; congr 2; omega
theorem new_f (a : Int) : trip_New.f a = some (mx a 4294967296, 0) := rfl
theorem new_range {a : Int} (h : 0 ≤ a ∧ a ≤ 18446744073709551615) : Gr (mx a 4294967296) := by unfold mx Gr; split <;> omega
theorem steady_l (a m : Int) (ha : 0 ≤ a ∧ a ≤ 1048576) (hm : 1 ≤ m ∧ m ≤ 200) (d : Nat) : ∀ (k : Nat) (g i : Int), Gr g → 0 ≤ i → i + d = m → d + 200 < k → (i = 0 ∨ g = mx a 1 * 4294967296) →
    terracelaw16_TripSteady.l0 k a m m i g i = some true := by
  have hx : 1 ≤ mx a 1 ∧ mx a 1 ≤ 1048576 := by unfold mx; split <;> omega
  induction d with
  | zero =>
    intro k g i hg h0 h1 hk h2
    obtain ⟨k, rfl, hk⟩ := fuel hk
    simp only [terracelaw16_TripSteady.l0]
    rw [if_neg (by omega)]
    obtain rfl : g = mx a 1 * 4294967296 := by omega
    refine bs (rfl : trip_Trip_Get.f _ _ = _) ?_
    rw [show mx a 1 % 4294967296 = mx a 1 by omega]
    refine bs (of_f _ (by omega) (by omega)) ?_
    rw [if_pos rfl]
    refine bs (ticks_f _ _ hg) ?_
    rw [if_pos (by dsimp only; omega)]
    refine bs (rfl : trip_Trip_Known.f _ _ = _) ?_
    rw [if_pos (by dsimp only; omega)]
    exact bs (awake16_k (by omega)) rfl
  | succ d ih =>
    intro k g i hg h0 h1 hk h2
    obtain ⟨k, rfl, hk⟩ := fuel hk
    simp only [terracelaw16_TripSteady.l0]
    rw [if_pos (by omega), w64 (n := 2097152 + i) (by omega) (by omega), w64 (n := 2097152 + i - a) (by omega) (by omega)]
    refine bs (sample_f g i _ _ _ hg (by omega) (by omega)) ?_
    rw [if_pos (show taken _ _ _ by unfold taken; omega), if_pos rfl, show 2097152 + i - (2097152 + i - a) - 0 = a by omega, w64 (n := i + 1) (by omega) (by omega)]
    refine ih k _ (i + 1) (nxt_range _ _ _ hg hx) (by omega) (by omega) (by omega) (.inr ?_)
    dsimp only
    unfold nxt; split <;> omega
theorem TripSteady : terracelaw16_TripSteady.Pure := by
  intro a m h0 h1
  refine ⟨1000, ?_⟩
  have r0 := wf_i64 h0
  have r1 := wf_i64 h1
  have key : ∀ b, b = true → terracelaw16_TripSteady.j0 1000 a m b = some true := by
    rintro b rfl
    rw [show (1000 : Nat) = 999 + 1 from rfl]
    simp only [terracelaw16_TripSteady.j0]
    rw [if_pos trivial]
    exact bs (awake16_k (by omega)) rfl
  unfold terracelaw16_TripSteady.f
  by_cases c1 : a < 0
  · rw [if_pos c1]; exact key _ rfl
  rw [if_neg c1]
  by_cases c2 : a > 1048576
  · rw [if_pos c2]; exact key _ rfl
  rw [if_neg c2]
  by_cases c3 : m < 1
  · rw [if_pos c3]; exact key _ rfl
  rw [if_neg c3]
  by_cases c4 : m > 200
  · exact key _ (by simpa using c4)
  rw [show (1000 : Nat) = 999 + 1 from rfl]
  simp only [terracelaw16_TripSteady.j0]
  rw [if_neg (by simpa using c4)]
  refine bs (new_f _) ?_
  exact steady_l a m (by omega) (by omega) m.toNat 999 _ 0 (new_range (a := 18446744073709551615) (by omega)) (by omega) (by omega) (by omega) (.inl rfl)

end Go.Proofs.Ytbcbmgdnkagmmaa.Pure
