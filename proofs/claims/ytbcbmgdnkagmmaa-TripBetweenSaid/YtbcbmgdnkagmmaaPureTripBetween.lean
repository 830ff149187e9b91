/- Proved: a guess is never below One, and lies between the least and the greatest sample, but for what is rounded (for every input that the statement's guards let in; the Go function returns true and leaves its arguments as they were). -/
import Derived.Test.YtbcbmgdnkagmmaaPTripBetweenx2
set_option linter.unusedVariables false
set_option linter.unusedSimpArgs false
namespace Go.Proofs.Ytbcbmgdnkagmmaa.Pure
open Go.RowKit Go.Proofs.Ytbcbmgdnkagmmaa.PTripBetween Go.Proofs.YtbcbmgdnkagmmaaW.PrintWords Go.Proofs.YtbcbmgdnkagmmaaW.PrintLast Go.Proofs.YtbcbmgdnkagmmaaW.PrintMore

theorem wf_u8 {a : Int} (h : (Lit.int .u8 a).wf = true) : 0 ≤ a ∧ a ≤ 255 := by
  simpa [Lit.wf, IntKind.min, IntKind.max, IntKind.signed, IntKind.bits] using h
theorem wf_u16 {a : Int} (h : (Lit.int .u16 a).wf = true) : 0 ≤ a ∧ a ≤ 65535 := by
  simpa [Lit.wf, IntKind.min, IntKind.max, IntKind.signed, IntKind.bits] using h
theorem wf_u32 {a : Int} (h : (Lit.int .u32 a).wf = true) : 0 ≤ a ∧ a ≤ 4294967295 := by
  simpa [Lit.wf, IntKind.min, IntKind.max, IntKind.signed, IntKind.bits] using h
theorem wf_u64 {a : Int} (h : (Lit.int .u64 a).wf = true) : 0 ≤ a ∧ a ≤ 18446744073709551615 := by
  simpa [Lit.wf, IntKind.min, IntKind.max, IntKind.signed, IntKind.bits] using h
theorem wf_i64 {a : Int} (h : (Lit.int .i64 a).wf = true) : -9223372036854775808 ≤ a ∧ a ≤ 9223372036854775807 := by
  simpa [Lit.wf, IntKind.min, IntKind.max, IntKind.signed, IntKind.bits] using h
theorem w64 {n : Int} (h : -9223372036854775808 ≤ n) (h' : n ≤ 9223372036854775807) : wrap64 n = n := by
  unfold wrap64; omega
theorem fuel {k n : Nat} (h : n < k) : ∃ m, k = m + 1 ∧ n ≤ m := ⟨k - 1, by omega, by omega⟩
theorem u64 {n : Int} (h : 0 ≤ n) (h' : n ≤ 18446744073709551615) : IntKind.u64.wrap n = n := by
  simp only [IntKind.wrap, IntKind.bits, IntKind.signed]; simp; omega
theorem wu (n : Int) : IntKind.u64.wrap n = n % 18446744073709551616 := by
  simp [IntKind.wrap, IntKind.bits, IntKind.signed]
theorem wraps_u64 (n : Int) (h0 : 0 ≤ n) (h1 : n < 2 ^ 64) : IntKind.u64.wrap n = n := by rw [wu]; omega
theorem and32 (x : Int) (h0 : 0 ≤ x) (h1 : x < 18446744073709551616) : Go.bits .and .u64 x 4294967295 = x % 4294967296 :=
  bits_mask .u64 64 (by decide) wraps_u64 32 (by decide) x h0 h1
theorem or_join (i : Nat) (x y : Int) (h0 : 0 ≤ x) (h1 : x % 2 ^ i = 0) (h2 : x < 18446744073709551616) (h3 : 0 ≤ y) (h4 : y < 2 ^ i) (h5 : y < 18446744073709551616) : Go.bits .or .u64 x y = x + y :=
  bits_join .u64 64 (by decide) wraps_u64 i x y h0 h1 h2 h3 h4 h5
theorem shl_u (x y : Int) (h0 : 0 ≤ y) (h1 : y ≤ 64) : shl .u64 x y = (x * 2 ^ y.toNat) % 18446744073709551616 := by
  unfold shl; rw [wu, show min y.toNat (IntKind.bits .u64) = y.toNat from Nat.min_eq_left (by simp [IntKind.bits]; omega)]
theorem shr_u (x y : Int) (h0 : 0 ≤ y) (h1 : y ≤ 64) : shr .u64 x y = x / 2 ^ y.toNat := by
  unfold shr; rw [show min y.toNat (IntKind.bits .u64) = y.toNat from Nat.min_eq_left (by simp [IntKind.bits]; omega)]
/-- one call behind another (no unfolding: the kernel need not look into what is called) -/
theorem bs {α β : Type} {x : Option α} {f : α → Option β} {a : α} {r : Option β} (h : x = some a) (h2 : f a = r) : x.bind f = r := by
  subst h; exact h2
def addv (a b : Int) : Int := if a + b > 18446744073709551615 then 18446744073709551615 else a + b
theorem add_f (a b : Int) (ha : 0 ≤ a ∧ a ≤ 18446744073709551615) (hb : 0 ≤ b ∧ b ≤ 18446744073709551615) : fix_F_Add.f a b = some (addv a b) := by
  unfold fix_F_Add.f addv addC addS
  by_cases h : a + b > 18446744073709551615
  · rw [if_neg (by omega), if_pos h]
  · rw [if_pos (by omega), if_neg h]; congr 1; omega
theorem addv_range (a b : Int) (ha : 0 ≤ a ∧ a ≤ 18446744073709551615) (hb : 0 ≤ b ∧ b ≤ 18446744073709551615) : 0 ≤ addv a b ∧ addv a b ≤ 18446744073709551615 := by
  unfold addv; split <;> omega
def subv (a b : Int) : Int := if b > a then 0 else a - b
theorem sub_f (a b : Int) (ha : 0 ≤ a ∧ a ≤ 18446744073709551615) (hb : 0 ≤ b ∧ b ≤ 18446744073709551615) : fix_F_Sub.f a b = some (subv a b) := by
  unfold fix_F_Sub.f subv
  split
  · rfl
  · rw [wu]; congr 1; omega
theorem awake16_k {k : Nat} (hk : 100 ≤ k) : terracelaw16_awake.f k = some true :=
  at_rounds (g := fun k => terracelaw16_awake.f k) (fun k => terracelaw16_awake.mono k) hk (by decide +kernel)
def taken (a b c : Int) : Prop := (0 ≤ a ∧ a ≤ 1099511627776) ∧ (0 ≤ b ∧ b ≤ 1099511627776) ∧ (0 ≤ c ∧ c ≤ 1099511627776) ∧ 0 ≤ a - b - c ∧ a - b - c ≤ 1048576
instance (a b c : Int) : Decidable (taken a b c) := by unfold taken; infer_instance
def nxt (g n x : Int) : Int := if n = 0 then x * 4294967296 else g - g / 8 + x * 536870912
def Gr (g : Int) : Prop := 4294967296 ≤ g ∧ g ≤ 18446744073709551615
theorem nxt_range (g n x : Int) (hg : Gr g) (hx : 1 ≤ x ∧ x ≤ 1048576) : Gr (nxt g n x) := by
  unfold nxt Gr at *; split <;> omega
theorem of_f (a : Int) (h0 : 0 ≤ a) (h1 : a ≤ 4294967295) : fix_Of.f a = some (a * 4294967296) := by
  unfold fix_Of.f; rw [u64 h0 (by omega), u64 (by omega) (by omega)]
theorem time_f (a : Int) : trip_time.f a = some (decide (0 ≤ a ∧ a ≤ 1099511627776)) := by
  unfold trip_time.f
  by_cases h : a ≥ 0
  · rw [if_pos h]; congr 1; simp [show 0 ≤ a from h]
  · rw [if_neg h]; congr 1; simp; omega
theorem smooth_f (g x : Int) (hg : Gr g) (hx : 1 ≤ x ∧ x ≤ 1048576) : meter_Smooth.f g (x * 4294967296) 3 = some (g - g / 8 + x * 536870912) := by
  unfold meter_Smooth.f Gr at *
  rw [if_neg (by decide)]
  have e1 : fix_F_Half.f g 3 = some (g / 8) := by
    unfold fix_F_Half.f; rw [show mx 3 0 = 3 by decide, shr_u _ _ (by omega) (by omega)]; rfl
  refine bs e1 ?_
  have e2 : fix_F_Sub.f g (g / 8) = some (g - g / 8) := by
    unfold fix_F_Sub.f; rw [if_neg (by omega), u64 (by omega) (by omega)]
  refine bs e2 ?_
  have e3 : fix_F_Half.f (x * 4294967296) 3 = some (x * 536870912) := by
    unfold fix_F_Half.f; rw [show mx 3 0 = 3 by decide, shr_u _ _ (by omega) (by omega), show (2 : Int) ^ (3 : Int).toNat = 8 from rfl]; congr 1; omega
  refine bs e3 ?_
  refine bs (add_f _ _ (by omega) (by omega)) ?_
  congr 1; unfold addv; split <;> omega
theorem sample_f (g n a b c : Int) (hg : Gr g) (hn : 0 ≤ n ∧ n ≤ 1000000) {k : Nat} (hk : 10 ≤ k) :
    trip_Trip_Sample.f k g n a b c = some (if taken a b c then (0, nxt g n (mx (a - b - c) 1), n + 1) else (11, g, n)) := by
  obtain ⟨k, rfl⟩ : ∃ m, k = m + 1 + 1 := ⟨k - 2, by omega⟩
  have j0t : ∀ b1, b1 = true → trip_Trip_Sample.j0 (k + 1 + 1) a b c b1 g n = some (11, g, n) := by
    rintro b1 rfl
    simp only [trip_Trip_Sample.j0]; rw [if_pos trivial]
  have j1t : ∀ y b1, b1 = true → trip_Trip_Sample.j1 (k + 1) y b1 g n = some (11, g, n) := by
    rintro y b1 rfl
    simp only [trip_Trip_Sample.j1]; rw [if_pos trivial]
  unfold trip_Trip_Sample.f
  refine bs (time_f a) ?_
  by_cases ha : 0 ≤ a ∧ a ≤ 1099511627776
  rotate_left
  · rw [if_neg (by simpa using ha), if_neg (fun h => ha h.1)]; exact j0t _ rfl
  rw [if_pos (by simpa using ha)]
  refine bs (time_f b) ?_
  by_cases hb : 0 ≤ b ∧ b ≤ 1099511627776
  rotate_left
  · rw [if_neg (by simpa using hb), if_neg (fun h => hb h.2.1)]; exact j0t _ rfl
  rw [if_pos (by simpa using hb)]
  refine bs (time_f c) ?_
  by_cases hc : 0 ≤ c ∧ c ≤ 1099511627776
  rotate_left
  · rw [if_neg (fun h => hc h.2.2.1)]; exact j0t _ (by simp; omega)
  simp only [trip_Trip_Sample.j0]
  rw [if_neg (by simp; omega)]
  rw [w64 (n := a - b) (by omega) (by omega), w64 (n := a - b - c) (by omega) (by omega)]
  by_cases h0 : a - b - c < 0
  · rw [if_pos h0, if_neg (fun h => by unfold taken at h; omega)]; exact j1t _ _ rfl
  rw [if_neg h0]
  by_cases h1 : a - b - c > 1048576
  · rw [if_neg (fun h => by unfold taken at h; omega)]; exact j1t _ _ (by simpa using h1)
  have hm : 1 ≤ mx (a - b - c) 1 ∧ mx (a - b - c) 1 ≤ 1048576 := by unfold mx; split <;> omega
  rw [if_pos (show taken a b c by unfold taken; omega)]
  simp only [trip_Trip_Sample.j1]
  rw [if_neg (by simpa using h1)]
  rw [show mx (a - b - c) 1 % 4294967296 = mx (a - b - c) 1 by omega]
  refine bs (of_f _ (by omega) (by omega)) ?_
  by_cases hn0 : n > 0
  · rw [if_pos hn0]
    refine bs (smooth_f g _ hg hm) ?_
    unfold nxt Gr at *
    rw [if_neg (by omega), w64 (by omega) (by omega)]
    congr 2
    unfold mx; rw [if_neg]; split <;> omega
  · rw [if_neg hn0, w64 (by omega) (by omega)]
    unfold nxt; rw [if_pos (by omega)]
theorem ticks_f (g n : Int) (hg : Gr g) : trip_Trip_Ticks.f g n = some ((g + 4294967295) / 4294967296, g, n) := by
  unfold trip_Trip_Ticks.f Gr at *
  have e : fix_F_Whole.f g = some (g / 4294967296) := by unfold fix_F_Whole.f; congr 1; omega
  refine bs e ?_
  refine bs (of_f _ (by omega) (by omega)) ?_
  rw [w64 (n := g / 4294967296) (by omega) (by omega)]
  by_cases h : g / 4294967296 * 4294967296 < g
  · rw [if_pos h, w64 (by omega) (by omega)]; congr 2; omega
  · rw [if_neg h]; congr 2; omega
theorem new_f (a : Int) : trip_New.f a = some (mx a 4294967296, 0) := rfl
theorem new_range {a : Int} (h : 0 ≤ a ∧ a ≤ 18446744073709551615) : Gr (mx a 4294967296) := by unfold mx Gr; split <;> omega
theorem rd_ok {l : List S35} (h : ∀ y_ ∈ l, okS35 y_) (i : Int) (h0 : 0 ≤ i) (h1 : i < l.length) : okS35 (rd_T35 l i) := by
  unfold rd_T35
  rw [List.getD_eq_getElem?_getD, List.getElem?_eq_getElem (by omega), Option.getD_some]
  exact h _ (List.getElem_mem _)
/-- a sample: the guess, and how many there were -/
def one (s : Int × Int) (o : S35) : Int × Int := if taken o.f0 o.f1 o.f2 then (nxt s.1 s.2 (mx (o.f0 - o.f1 - o.f2) 1), s.2 + 1) else s
theorem one_ok (s : Int × Int) (o : S35) (m : Int) (hg : Gr s.1) (hn : 0 ≤ s.2 ∧ s.2 ≤ m) : Gr (one s o).1 ∧ 0 ≤ (one s o).2 ∧ (one s o).2 ≤ m + 1 := by
  unfold one
  split
  · rename_i h
    unfold taken at h
    exact ⟨nxt_range _ _ _ hg (by unfold mx; split <;> omega), by omega, by omega⟩
  · exact ⟨hg, hn.1, by omega⟩
theorem fold_ok (l : List S35) : ∀ (s : Int × Int) (m : Int), Gr s.1 → 0 ≤ s.2 ∧ s.2 ≤ m → Gr (l.foldl one s).1 ∧ 0 ≤ (l.foldl one s).2 ∧ (l.foldl one s).2 ≤ m + l.length := by
  induction l with
  | nil => intro s m hg hn; simp; exact ⟨hg, hn.1, hn.2⟩
  | cons o r ih =>
    intro s m hg hn
    obtain ⟨h1, h2, h3⟩ := one_ok s o m hg hn
    obtain ⟨h4, h5, h6⟩ := ih (one s o) (m + 1) h1 ⟨h2, h3⟩
    rw [List.foldl_cons, List.length_cons]
    exact ⟨h4, h5, by omega⟩
theorem drop_rd (l : List S35) (i : Int) (h0 : 0 ≤ i) (h1 : i < l.length) : l.drop i.toNat = rd_T35 l i :: l.drop (i + 1).toNat := by
  rw [List.drop_eq_getElem_cons (by omega), show (i + 1).toNat = i.toNat + 1 by omega]
  unfold rd_T35
  rw [List.getD_eq_getElem?_getD, List.getElem?_eq_getElem (by omega), Option.getD_some]
theorem lasted_f (a b c : Int) : terraceref16_Lasted.f a b c = some (if taken a b c then mx (a - b - c) 1 else -1) := by
  unfold terraceref16_Lasted.f
  by_cases h : terraceref16_Lasted.good a ∧ terraceref16_Lasted.good b ∧ terraceref16_Lasted.good c
  rotate_left
  · rw [if_neg h, if_neg (fun t => h ⟨t.1, t.2.1, t.2.2.1⟩)]
  rw [if_pos h]
  obtain ⟨⟨h1, h2⟩, ⟨h3, h4⟩, h5, h6⟩ := h
  rw [w64 (n := a - b) (by omega) (by omega), w64 (n := a - b - c) (by omega) (by omega)]
  by_cases h7 : a - b - c < 0
  · rw [if_pos h7, if_neg (fun t => by unfold taken at t; omega)]
  rw [if_neg h7]
  by_cases h8 : a - b - c > 1048576
  · rw [if_pos h8, if_neg (fun t => by unfold taken at t; omega)]
  rw [if_neg h8, if_pos (show taken a b c by unfold taken; omega)]
  unfold mx
  by_cases h9 : a - b - c = 0
  · rw [if_pos h9, if_pos (by omega)]
  · rw [if_neg h9, if_neg (by omega)]
theorem nxt_between (g n x lo hi : Int) (hx : lo ≤ x ∧ x ≤ hi) (hn : n = 0 ∨ lo * 4294967296 ≤ g ∧ g ≤ hi * 4294967296) : lo * 4294967296 ≤ nxt g n x ∧ nxt g n x ≤ hi * 4294967296 := by
  unfold nxt; split <;> omega
theorem between_l (l0 : List S35) (l : List S35) (hl : l.length ≤ 100) (hl0 : l0.length ≤ 100) (d : Nat) : ∀ (k : Nat) (g n i lo hi : Int), Gr g → 0 ≤ n ∧ n ≤ i → 0 ≤ i → i + d = l.length → d + 200 < k → 0 ≤ lo ∧ lo ≤ 1073741824 → 0 ≤ hi ∧ hi ≤ 1048576 →
    (n = 0 ∨ lo * 4294967296 ≤ g ∧ g ≤ hi * 4294967296) →
    terracelaw16_TripBetween.l0 k l0 lo hi l (l.length : Int) i g n = some true := by
  induction d with
  | zero =>
    intro k g n i lo hi hg hn h0 h1 hk _ _ _
    obtain ⟨k, rfl, hk⟩ := fuel hk
    simp only [terracelaw16_TripBetween.l0]
    rw [if_neg (by omega)]
    exact bs (awake16_k (by omega)) rfl
  | succ d ih =>
    intro k g n i lo hi hg hn h0 h1 hk hlo hhi hb
    obtain ⟨k, rfl, hk⟩ := fuel hk
    simp only [terracelaw16_TripBetween.l0]
    rw [if_pos (by omega), if_pos h0, if_pos (by omega)]
    refine bs (sample_f g n _ _ _ hg (by omega) (by omega)) ?_
    by_cases ht : taken (rd_T35 l i).f0 (rd_T35 l i).f1 (rd_T35 l i).f2
    · rw [if_pos ht, if_pos rfl]
      refine bs (lasted_f _ _ _) ?_
      rw [if_pos ht]
      have hx : 1 ≤ mx ((rd_T35 l i).f0 - (rd_T35 l i).f1 - (rd_T35 l i).f2) 1 ∧ mx ((rd_T35 l i).f0 - (rd_T35 l i).f1 - (rd_T35 l i).f2) 1 ≤ 1048576 := by
        unfold taken at ht; unfold mx; split <;> omega
      generalize mx ((rd_T35 l i).f0 - (rd_T35 l i).f1 - (rd_T35 l i).f2) 1 = x at hx ⊢
      have hg2 := nxt_range g n x hg hx
      have hmn : 0 ≤ mn lo x ∧ mn lo x ≤ x ∧ mn lo x ≤ lo := by unfold mn; split <;> omega
      have hmx : hi ≤ mx hi x ∧ x ≤ mx hi x ∧ mx hi x ≤ 1048576 := by unfold mx; split <;> omega
      have hb2 := nxt_between g n x (mn lo x) (mx hi x) (by omega) (by omega)
      dsimp only
      generalize nxt g n x = g2 at hg2 hb2 ⊢
      generalize mn lo x = lo2 at hmn hb2 ⊢
      generalize mx hi x = hi2 at hmx hb2 ⊢
      have hgr := hg2
      unfold Gr at hgr
      refine bs (rfl : trip_Trip_Get.f _ _ = _) ?_
      rw [if_neg (by omega)]
      refine bs (rfl : trip_Trip_Get.f _ _ = _) ?_
      dsimp only
      rw [u64 (n := (l0.length : Int)) (by omega) (by omega), show lo2 % 4294967296 = lo2 by omega, show hi2 % 4294967296 = hi2 by omega]
      refine bs (add_f _ _ (by omega) (by omega)) (bs (of_f _ (by omega) (by omega)) ?_)
      rw [if_neg (by unfold addv; split <;> omega)]
      refine bs (rfl : trip_Trip_Get.f _ _ = _) ?_
      dsimp only
      refine (bs (of_f _ (by omega) (by omega)) (bs (add_f _ _ (by omega) (by omega)) ?_))
      rw [if_neg (by unfold addv; split <;> omega), w64 (n := i + 1) (by omega) (by omega)]
      exact ih k g2 (n + 1) (i + 1) lo2 hi2 hg2 (by omega) (by omega) (by omega) (by omega) (by omega) (by omega) (.inr hb2)
    · rw [if_neg ht, if_neg (by dsimp only; omega), w64 (n := i + 1) (by omega) (by omega)]
      exact ih k g n (i + 1) lo hi hg (by omega) (by omega) (by omega) (by omega) hlo hhi hb
theorem TripBetween : terracelaw16_TripBetween.Pure := by
  intro a0 l h0 hl h
  refine ⟨1000, ?_⟩
  have r0 := wf_u64 h0
  unfold terracelaw16_TripBetween.f
  by_cases c1 : (l.length : Int) > 80
  · rw [if_pos c1]; exact bs (awake16_k (by omega)) rfl
  rw [if_neg c1]
  refine bs (new_f a0) ?_
  exact between_l l l (by omega) (by omega) l.length 1000 _ 0 0 _ _ (new_range r0) (by omega) (by omega) (by omega) (by omega) (by omega) (by omega) (.inl rfl)

end Go.Proofs.Ytbcbmgdnkagmmaa.Pure
