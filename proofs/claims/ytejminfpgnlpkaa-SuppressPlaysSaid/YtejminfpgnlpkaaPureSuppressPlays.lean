/- Proved: a round answers every sequence of calls as the document says (for every input that the statement's guards let in; the Go function returns true and leaves its arguments as they were). -/
import Derived.Test.YtejminfpgnlpkaaPSuppressPlaysx7
set_option linter.unusedVariables false
set_option linter.unusedSimpArgs false
namespace Go.Proofs.Ytejminfpgnlpkaa.Pure
open Go.RowKit Go.Proofs.Ytejminfpgnlpkaa.PSuppressPlays Go.Proofs.YtejminfpgnlpkaaW.PrintWords Go.Proofs.YtejminfpgnlpkaaW.PrintLast Go.Proofs.YtejminfpgnlpkaaW.PrintMore

theorem wf_u8 {a : Int} (h : (Lit.int .u8 a).wf = true) : 0 ≤ a ∧ a ≤ 255 := by
  simpa [Lit.wf, IntKind.min, IntKind.max, IntKind.signed, IntKind.bits] using h
theorem wf_u16 {a : Int} (h : (Lit.int .u16 a).wf = true) : 0 ≤ a ∧ a ≤ 65535 := by
  simpa [Lit.wf, IntKind.min, IntKind.max, IntKind.signed, IntKind.bits] using h
theorem wf_u32 {a : Int} (h : (Lit.int .u32 a).wf = true) : 0 ≤ a ∧ a ≤ 4294967295 := by
  simpa [Lit.wf, IntKind.min, IntKind.max, IntKind.signed, IntKind.bits] using h
theorem wf_u64 {a : Int} (h : (Lit.int .u64 a).wf = true) : 0 ≤ a ∧ a ≤ 18446744073709551615 := by
  simpa [Lit.wf, IntKind.min, IntKind.max, IntKind.signed, IntKind.bits] using h
theorem wf_i64 {a : Int} (h : (Lit.int .i64 a).wf = true) : -9223372036854775808 ≤ a ∧ a ≤ 9223372036854775807 := by
  simpa [Lit.wf, IntKind.min, IntKind.max, IntKind.signed, IntKind.bits] using h
theorem w64 {n : Int} (h : -9223372036854775808 ≤ n) (h' : n ≤ 9223372036854775807) : wrap64 n = n := by
  unfold wrap64; omega
theorem fuel {k n : Nat} (h : n < k) : ∃ m, k = m + 1 ∧ n ≤ m := ⟨k - 1, by omega, by omega⟩
theorem u64 {n : Int} (h : 0 ≤ n) (h' : n ≤ 18446744073709551615) : IntKind.u64.wrap n = n := by
  simp only [IntKind.wrap, IntKind.bits, IntKind.signed]; simp; omega
theorem wu (n : Int) : IntKind.u64.wrap n = n % 18446744073709551616 := by
  simp [IntKind.wrap, IntKind.bits, IntKind.signed]
theorem wraps_u64 (n : Int) (h0 : 0 ≤ n) (h1 : n < 2 ^ 64) : IntKind.u64.wrap n = n := by rw [wu]; omega
theorem and32 (x : Int) (h0 : 0 ≤ x) (h1 : x < 18446744073709551616) : Go.bits .and .u64 x 4294967295 = x % 4294967296 :=
  bits_mask .u64 64 (by decide) wraps_u64 32 (by decide) x h0 h1
theorem or_join (i : Nat) (x y : Int) (h0 : 0 ≤ x) (h1 : x % 2 ^ i = 0) (h2 : x < 18446744073709551616) (h3 : 0 ≤ y) (h4 : y < 2 ^ i) (h5 : y < 18446744073709551616) : Go.bits .or .u64 x y = x + y :=
  bits_join .u64 64 (by decide) wraps_u64 i x y h0 h1 h2 h3 h4 h5
theorem shl_u (x y : Int) (h0 : 0 ≤ y) (h1 : y ≤ 64) : shl .u64 x y = (x * 2 ^ y.toNat) % 18446744073709551616 := by
  unfold shl; rw [wu, show min y.toNat (IntKind.bits .u64) = y.toNat from Nat.min_eq_left (by simp [IntKind.bits]; omega)]
theorem shr_u (x y : Int) (h0 : 0 ≤ y) (h1 : y ≤ 64) : shr .u64 x y = x / 2 ^ y.toNat := by
  unfold shr; rw [show min y.toNat (IntKind.bits .u64) = y.toNat from Nat.min_eq_left (by simp [IntKind.bits]; omega)]
/-- one call behind another (no unfolding: the kernel need not look into what is called) -/
theorem bs {α β : Type} {x : Option α} {f : α → Option β} {a : α} {r : Option β} (h : x = some a) (h2 : f a = r) : x.bind f = r := by
  subst h; exact h2
theorem rd44_ok {l : List S44} (h : ∀ y_ ∈ l, okS44 y_) (i : Int) (h0 : 0 ≤ i) (h1 : i < l.length) : okS44 (rd_T44 l i) := by
  unfold rd_T44
  rw [List.getD_eq_getElem?_getD, List.getElem?_eq_getElem (by omega), Option.getD_some]
  exact h _ (List.getElem_mem _)
theorem awake17_k {k : Nat} (hk : 100 ≤ k) : terracelaw17_awake.f k = some true :=
  at_rounds (g := fun k => terracelaw17_awake.f k) (fun k => terracelaw17_awake.mono k) hk (by decide +kernel)
def okT (a : Int) : Prop := 0 ≤ a ∧ a ≤ 1099511627776
instance (a : Int) : Decidable (okT a) := by unfold okT; infer_instance
theorem time_f (a : Int) : suppress_time.f a = some (decide (okT a)) := by
  unfold suppress_time.f
  by_cases h : a ≥ 0
  · rw [if_pos h, show decide (a ≤ 1099511627776) = decide (okT a) from decide_eq_decide.mpr (by unfold okT; omega)]
  · rw [if_neg h, decide_eq_false (fun h2 : okT a => by unfold okT at h2; omega)]
theorem start_f (s0 s1 s2 : Int) (s3 : Bool) (a b c x : Int) {k : Nat} (hk : 2 ≤ k) :
    suppress_Round_Start.f k s0 s1 s2 s3 a b c x = some (if okT a ∧ okT b ∧ okT c then (if a ≤ s0 then (24, s0, s1, s2, s3) else (0, a, b + c, x, true)) else (11, s0, s1, s2, s3)) := by
  obtain ⟨k, rfl⟩ : ∃ m, k = m + 1 := ⟨k - 1, by omega⟩
  have bad : ∀ z, z = true → suppress_Round_Start.j0 (k + 1) a b c x z s0 s1 s2 s3 = some (11, s0, s1, s2, s3) := by
    rintro z rfl
    simp only [suppress_Round_Start.j0]; rw [if_pos trivial]
  unfold suppress_Round_Start.f
  refine bs (time_f a) ?_
  by_cases ha : okT a
  rotate_left
  · rw [if_neg (by simpa using ha), if_neg (fun h => ha h.1)]; exact bad _ rfl
  rw [if_pos (by simpa using ha)]
  refine bs (time_f b) ?_
  by_cases hb : okT b
  rotate_left
  · rw [if_neg (by simpa using hb), if_neg (fun h => hb h.2.1)]; exact bad _ rfl
  rw [if_pos (by simpa using hb)]
  refine bs (time_f c) ?_
  by_cases hc : okT c
  rotate_left
  · rw [if_neg (fun h => hc h.2.2)]; exact bad _ (by simpa using hc)
  rw [if_pos ⟨ha, hb, hc⟩]
  simp only [suppress_Round_Start.j0]
  rw [if_neg (by simpa using hc)]
  unfold okT at ha hb hc
  by_cases h : a ≤ s0
  · rw [if_pos h, if_pos h]
  · rw [if_neg h, if_neg h, w64 (by omega) (by omega)]
theorem fire_f (s0 s1 s2 : Int) (s3 : Bool) (a : Int) : suppress_Round_Fire.f s0 s1 s2 s3 a = some (if s3 = true ∧ s1 ≤ a then (true, s0, s1, s2, false) else (false, s0, s1, s2, s3)) := by
  unfold suppress_Round_Fire.f
  cases s3 with
  | false => rw [if_neg (by simp), if_neg (by simp)]
  | true =>
    rw [if_pos rfl]
    by_cases h : a < s1
    · rw [if_pos h, if_neg (by omega)]
    · rw [if_neg h, if_pos ⟨rfl, by omega⟩]
def low (x own : Int) : Prop := x - x / 8 ≤ own
instance (x own : Int) : Decidable (low x own) := by unfold low; infer_instance
theorem echo_f (s0 s1 s2 : Int) (s3 : Bool) (a x : Int) (hx : 0 ≤ x ∧ x ≤ 18446744073709551615) : suppress_Round_Echo.f s0 s1 s2 s3 a x = some (if s3 = true ∧ a = s0 ∧ low x s2 then (true, s0, s1, s2, false) else (false, s0, s1, s2, s3)) := by
  unfold suppress_Round_Echo.f
  cases s3 with
  | false => rw [if_neg (by simp), if_neg (by simp)]
  | true =>
    rw [if_pos rfl]
    by_cases h : a = s0
    · rw [if_pos h]
      have e1 : fix_F_Half.f x 3 = some (x / 8) := by
        unfold fix_F_Half.f; rw [show mx 3 0 = 3 by decide, shr_u _ _ (by omega) (by omega)]; rfl
      refine bs e1 ?_
      have e2 : fix_F_Sub.f x (x / 8) = some (x - x / 8) := by
        unfold fix_F_Sub.f; rw [if_neg (by omega), u64 (by omega) (by omega)]
      refine bs e2 ?_
      by_cases hl : low x s2
      · rw [if_neg (by unfold low at hl; omega), if_pos ⟨rfl, h, hl⟩]
      · rw [if_pos (by unfold low at hl; omega), if_neg (fun z => hl z.2.2)]
    · rw [if_neg h, if_neg (fun z => h z.2.1)]
theorem due_f (s0 s1 s2 : Int) (s3 : Bool) : suppress_Round_Due.f s0 s1 s2 s3 = some (if s3 = true then s1 else 0, s3, s0, s1, s2, s3) := by
  cases s3 <;> rfl
theorem rstep1 (s0 s1 s2 : Int) (s3 : Bool) (a b c x : Int) {k : Nat} (hk : 2 ≤ k) :
    terraceref17_Step.f k s0 s1 s2 s3 1 a b c x = some (if okT a ∧ okT b ∧ okT c then (if a ≤ s0 then (s0, s1, s2, s3, 24) else (a, b + c, x, true, 0)) else (s0, s1, s2, s3, 11)) := by
  obtain ⟨k, rfl⟩ : ∃ m, k = m + 1 := ⟨k - 1, by omega⟩
  have bad : ∀ z, z = true → ¬(okT a ∧ okT b ∧ okT c) → terraceref17_Step.j0 (k + 1) a b c x z s0 s1 s2 s3 = some (if okT a ∧ okT b ∧ okT c then (if a ≤ s0 then (s0, s1, s2, s3, 24) else (a, b + c, x, true, 0)) else (s0, s1, s2, s3, 11)) := by
    rintro z rfl hn
    simp only [terraceref17_Step.j0]; rw [if_pos trivial, if_neg hn]
  unfold terraceref17_Step.f
  rw [if_pos rfl]
  by_cases c1 : a < 0
  · rw [if_pos c1]; exact bad _ rfl (fun h => by have := h.1; unfold okT at this; omega)
  rw [if_neg c1]
  by_cases c2 : a > 1099511627776
  · rw [if_pos c2]; exact bad _ rfl (fun h => by have := h.1; unfold okT at this; omega)
  rw [if_neg c2]
  by_cases c3 : b < 0
  · rw [if_pos c3]; exact bad _ rfl (fun h => by have := h.2.1; unfold okT at this; omega)
  rw [if_neg c3]
  by_cases c4 : b > 1099511627776
  · rw [if_pos c4]; exact bad _ rfl (fun h => by have := h.2.1; unfold okT at this; omega)
  rw [if_neg c4]
  by_cases c5 : c < 0
  · rw [if_pos c5]; exact bad _ rfl (fun h => by have := h.2.2; unfold okT at this; omega)
  rw [if_neg c5]
  by_cases c6 : c > 1099511627776
  · exact bad _ (by simpa using c6) (fun h => by have := h.2.2; unfold okT at this; omega)
  simp only [terraceref17_Step.j0]
  rw [if_neg (by simpa using c6), if_pos (show okT a ∧ okT b ∧ okT c by unfold okT; omega)]
  by_cases h : a ≤ s0
  · rw [if_pos h, if_pos h]
  · rw [if_neg h, if_neg h, w64 (by omega) (by omega)]
theorem rstep2 (s0 s1 s2 : Int) (s3 : Bool) (a b c x : Int) (k : Nat) (hx : 0 ≤ x ∧ x ≤ 18446744073709551615) :
    terraceref17_Step.f k s0 s1 s2 s3 2 a b c x = some (if s3 = true ∧ a = s0 ∧ low x s2 then (s0, s1, s2, false, 1) else (s0, s1, s2, s3, 0)) := by
  unfold terraceref17_Step.f
  rw [if_neg (by decide), if_pos rfl]
  cases s3 with
  | false => rw [if_neg (by simp), if_neg (by simp)]
  | true =>
    rw [if_pos rfl]
    by_cases h : a = s0
    · rw [if_pos h]
      have e : terraceref17_Low.f x s2 = some (decide (low x s2)) := by
        unfold terraceref17_Low.f
        rw [Int.tdiv_eq_ediv_of_nonneg hx.1, u64 (n := x / 8) (by omega) (by omega), u64 (by omega) (by omega)]; rfl
      refine bs e ?_
      by_cases hl : low x s2
      · rw [if_pos (by simpa using hl), if_pos ⟨rfl, h, hl⟩]
      · rw [if_neg (by simpa using hl), if_neg (fun z => hl z.2.2)]
    · rw [if_neg h, if_neg (fun z => h z.2.1)]
theorem rstep3 (s0 s1 s2 : Int) (s3 : Bool) (a b c x : Int) (k : Nat) :
    terraceref17_Step.f k s0 s1 s2 s3 3 a b c x = some (if s3 = true ∧ s1 ≤ a then (s0, s1, s2, false, 1) else (s0, s1, s2, s3, 0)) := by
  unfold terraceref17_Step.f
  rw [if_neg (by decide), if_neg (by decide), if_pos rfl]
  cases s3 with
  | false => rw [if_neg (by simp), if_neg (by simp)]
  | true =>
    rw [if_pos rfl]
    by_cases h : a ≥ s1
    · rw [if_pos h, if_pos ⟨rfl, by omega⟩]
    · rw [if_neg h, if_neg (by omega)]
theorem rstep4 (s0 s1 s2 : Int) (s3 : Bool) (a b c x : Int) {k : Nat} (hk : 2 ≤ k) :
    terraceref17_Step.f k s0 s1 s2 s3 4 a b c x = some (if okT a then (if s3 = true then (s0, mn s1 a, s2, s3, 0) else (s0, s1, s2, s3, 24)) else (s0, s1, s2, s3, 11)) := by
  obtain ⟨k, rfl⟩ : ∃ m, k = m + 1 := ⟨k - 1, by omega⟩
  unfold terraceref17_Step.f
  rw [if_neg (by decide), if_neg (by decide), if_neg (by decide)]
  by_cases c1 : a < 0
  · rw [if_pos c1, if_neg (fun h => by unfold okT at h; omega)]
    simp only [terraceref17_Step.j1]; rw [if_pos trivial]
  rw [if_neg c1]
  simp only [terraceref17_Step.j1]
  by_cases c2 : a > 1099511627776
  · rw [if_pos (by simpa using c2), if_neg (fun h => by unfold okT at h; omega)]
  rw [if_neg (by simpa using c2), if_pos (show okT a by unfold okT; omega)]
  cases s3 with
  | false => rw [if_neg (by simp), if_neg (by simp)]
  | true =>
    rw [if_pos rfl, if_pos rfl]
    unfold mn
    by_cases h : a < s1
    · rw [if_pos h, if_pos h]
    · rw [if_neg h, if_neg h]
theorem urge_f (s0 s1 s2 : Int) (s3 : Bool) (a : Int) : suppress_Round_Urge.f s0 s1 s2 s3 a = some (if okT a then (if s3 = true then (0, s0, mn s1 a, s2, s3) else (24, s0, s1, s2, s3)) else (11, s0, s1, s2, s3)) := by
  unfold suppress_Round_Urge.f
  refine bs (time_f a) ?_
  by_cases h : okT a
  · rw [if_pos (by simpa using h), if_pos h]
    cases s3 <;> rfl
  · rw [if_neg (by simpa using h), if_neg h]
theorem step_f (s0 s1 s2 : Int) (s3 : Bool) (o a b c x : Int) (hx : 0 ≤ x ∧ x ≤ 18446744073709551615) {k : Nat} (hk : 10 ≤ k) :
    ∃ t0 t1 t2 t3, terracelaw17_step.f k s0 s1 s2 s3 s0 s1 s2 s3 o a b c x = some (t0, t1, t2, t3, true, t0, t1, t2, t3) := by
  obtain ⟨k, rfl⟩ : ∃ m, k = m + 1 := ⟨k - 1, by omega⟩
  unfold terracelaw17_step.f
  by_cases c0 : o < 1
  · rw [if_pos c0]
    simp only [terracelaw17_step.j0]
    rw [if_pos trivial]; exact ⟨_, _, _, _, rfl⟩
  rw [if_neg c0]
  simp only [terracelaw17_step.j0]
  by_cases c4 : o > 4
  · rw [if_pos (by simpa using c4)]; exact ⟨_, _, _, _, rfl⟩
  rw [if_neg (by simpa using c4)]
  have hc : o = 1 ∨ o = 2 ∨ o = 3 ∨ o = 4 := by omega
  rcases hc with rfl | rfl | rfl | rfl
  · rw [rstep1 s0 s1 s2 s3 a b c x (by omega), Option.bind_some, if_pos rfl, start_f s0 s1 s2 s3 a b c x (by omega), Option.bind_some]
    by_cases g : okT a ∧ okT b ∧ okT c
    · rw [if_pos g, if_pos g]
      by_cases g2 : a ≤ s0
      · rw [if_pos g2, if_pos g2]; exact ⟨_, _, _, _, rfl⟩
      · rw [if_neg g2, if_neg g2]; exact ⟨_, _, _, _, rfl⟩
    · rw [if_neg g, if_neg g]; exact ⟨_, _, _, _, rfl⟩
  · rw [rstep2 s0 s1 s2 s3 a b c x _ hx, Option.bind_some, if_neg (by decide), if_pos rfl, echo_f s0 s1 s2 s3 a x hx, Option.bind_some]
    by_cases g : s3 = true ∧ a = s0 ∧ low x s2
    · rw [if_pos g, if_pos g]; exact ⟨_, _, _, _, rfl⟩
    · rw [if_neg g, if_neg g]; exact ⟨_, _, _, _, rfl⟩
  · rw [rstep3 s0 s1 s2 s3 a b c x _, Option.bind_some, if_neg (by decide), if_neg (by decide), if_pos rfl, fire_f s0 s1 s2 s3 a, Option.bind_some]
    by_cases g : s3 = true ∧ s1 ≤ a
    · rw [if_pos g, if_pos g]; exact ⟨_, _, _, _, rfl⟩
    · rw [if_neg g, if_neg g]; exact ⟨_, _, _, _, rfl⟩
  · rw [rstep4 s0 s1 s2 s3 a b c x (by omega), Option.bind_some, if_neg (by decide), if_neg (by decide), if_neg (by decide), if_pos rfl, urge_f s0 s1 s2 s3 a, Option.bind_some]
    by_cases g : okT a
    · rw [if_pos g, if_pos g]
      by_cases g2 : s3 = true
      · rw [if_pos g2, if_pos g2]; exact ⟨_, _, _, _, rfl⟩
      · rw [if_neg g2, if_neg g2]; exact ⟨_, _, _, _, rfl⟩
    · rw [if_neg g, if_neg g]; exact ⟨_, _, _, _, rfl⟩
theorem same_f (s0 s1 s2 : Int) (s3 : Bool) {k : Nat} (hk : 2 ≤ k) : terracelaw17_same.f k s0 s1 s2 s3 s0 s1 s2 s3 = some (true, s0, s1, s2, s3) := by
  obtain ⟨k, rfl⟩ : ∃ m, k = m + 1 := ⟨k - 1, by omega⟩
  have key : ∀ z, z = false → terracelaw17_same.j0 (k + 1) z s0 s1 s2 s3 s0 s1 s2 s3 = some (true, s0, s1, s2, s3) := by
    rintro z rfl
    simp only [terracelaw17_same.j0]
    rw [if_neg (by decide)]
    refine bs (rfl : suppress_Round_Number.f _ _ _ _ = _) ?_
    rw [if_pos rfl]
    refine bs (rfl : suppress_Round_Own.f _ _ _ _ = _) ?_
    simp
  unfold terracelaw17_same.f
  refine bs (due_f s0 s1 s2 s3) ?_
  cases s3 with
  | false => rw [if_neg (by simp), if_neg (by simp)]; exact key _ (by simp)
  | true => rw [if_neg (by simp), if_pos rfl, if_pos (by simp)]; exact key _ rfl
theorem plays_l (l : List S44) (hl : l.length ≤ 100) (hok : ∀ y_ ∈ l, okS44 y_) (d : Nat) : ∀ (k : Nat) (s0 s1 s2 : Int) (s3 : Bool) (i : Int), 0 ≤ i → i + d = l.length → d + 300 < k →
    terracelaw17_SuppressPlays.l0 k l (l.length : Int) i s0 s1 s2 s3 s0 s1 s2 s3 = some true := by
  induction d with
  | zero =>
    intro k s0 s1 s2 s3 i h0 h1 hk
    obtain ⟨k, rfl, _⟩ := fuel hk
    simp only [terracelaw17_SuppressPlays.l0]
    rw [if_neg (by omega)]
    exact bs (awake17_k (by omega)) rfl
  | succ d ih =>
    intro k s0 s1 s2 s3 i h0 h1 hk
    obtain ⟨k, rfl, _⟩ := fuel hk
    simp only [terracelaw17_SuppressPlays.l0]
    have ho := rd44_ok hok i h0 (by omega)
    rw [if_pos (by omega), if_pos h0, if_pos (by omega)]
    obtain ⟨t0, t1, t2, t3, e⟩ := step_f s0 s1 s2 s3 (rd_T44 l i).f0 (rd_T44 l i).f1 (rd_T44 l i).f2 (rd_T44 l i).f3 (rd_T44 l i).f4 (wf_u64 ho.2.2.2.2) (k := k) (by omega)
    refine bs e ?_
    rw [if_pos rfl]
    refine bs (same_f t0 t1 t2 t3 (by omega)) ?_
    rw [if_pos rfl, w64 (n := i + 1) (by omega) (by omega)]
    exact ih k t0 t1 t2 t3 (i + 1) (by omega) (by omega) (by omega)
theorem SuppressPlays : terracelaw17_SuppressPlays.Pure := by
  intro l hl hok
  refine ⟨2000, ?_⟩
  unfold terracelaw17_SuppressPlays.f
  refine bs (rfl : suppress_New.f = _) ?_
  by_cases c : (l.length : Int) > 100
  · rw [if_pos c]; exact bs (awake17_k (by omega)) rfl
  rw [if_neg c]
  exact plays_l l (by omega) hok l.length 2000 _ _ _ _ 0 (by omega) (by omega) (by omega)

end Go.Proofs.Ytejminfpgnlpkaa.Pure
