/- Proved: each round that was started ends once: it fires, or is ended by an echo that is low enough, or by the next start (for every input that the statement's guards let in; the Go function returns true and leaves its arguments as they were). -/
import Derived.Test.YtejminfpgnlpkaaPSuppressOncex5
set_option linter.unusedVariables false
set_option linter.unusedSimpArgs false
namespace Go.Proofs.Ytejminfpgnlpkaa.Pure
open Go.RowKit Go.Proofs.Ytejminfpgnlpkaa.PSuppressOnce Go.Proofs.YtejminfpgnlpkaaW.PrintWords Go.Proofs.YtejminfpgnlpkaaW.PrintLast Go.Proofs.YtejminfpgnlpkaaW.PrintMore

theorem wf_u8 {a : Int} (h : (Lit.int .u8 a).wf = true) : 0 ≤ a ∧ a ≤ 255 := by
  simpa [Lit.wf, IntKind.min, IntKind.max, IntKind.signed, IntKind.bits] using h
theorem wf_u16 {a : Int} (h : (Lit.int .u16 a).wf = true) : 0 ≤ a ∧ a ≤ 65535 := by
  simpa [Lit.wf, IntKind.min, IntKind.max, IntKind.signed, IntKind.bits] using h
theorem wf_u32 {a : Int} (h : (Lit.int .u32 a).wf = true) : 0 ≤ a ∧ a ≤ 4294967295 := by
  simpa [Lit.wf, IntKind.min, IntKind.max, IntKind.signed, IntKind.bits] using h
theorem wf_u64 {a : Int} (h : (Lit.int .u64 a).wf = true) : 0 ≤ a ∧ a ≤ 18446744073709551615 := by
  simpa [Lit.wf, IntKind.min, IntKind.max, IntKind.signed, IntKind.bits] using h
theorem wf_i64 {a : Int} (h : (Lit.int .i64 a).wf = true) : -9223372036854775808 ≤ a ∧ a ≤ 9223372036854775807 := by
  simpa [Lit.wf, IntKind.min, IntKind.max, IntKind.signed, IntKind.bits] using h
theorem w64 {n : Int} (h : -9223372036854775808 ≤ n) (h' : n ≤ 9223372036854775807) : wrap64 n = n := by
  unfold wrap64; omega
theorem fuel {k n : Nat} (h : n < k) : ∃ m, k = m + 1 ∧ n ≤ m := ⟨k - 1, by omega, by omega⟩
theorem u64 {n : Int} (h : 0 ≤ n) (h' : n ≤ 18446744073709551615) : IntKind.u64.wrap n = n := by
  simp only [IntKind.wrap, IntKind.bits, IntKind.signed]; simp; omega
theorem wu (n : Int) : IntKind.u64.wrap n = n % 18446744073709551616 := by
  simp [IntKind.wrap, IntKind.bits, IntKind.signed]
theorem wraps_u64 (n : Int) (h0 : 0 ≤ n) (h1 : n < 2 ^ 64) : IntKind.u64.wrap n = n := by rw [wu]; omega
theorem and32 (x : Int) (h0 : 0 ≤ x) (h1 : x < 18446744073709551616) : Go.bits .and .u64 x 4294967295 = x % 4294967296 :=
  bits_mask .u64 64 (by decide) wraps_u64 32 (by decide) x h0 h1
theorem or_join (i : Nat) (x y : Int) (h0 : 0 ≤ x) (h1 : x % 2 ^ i = 0) (h2 : x < 18446744073709551616) (h3 : 0 ≤ y) (h4 : y < 2 ^ i) (h5 : y < 18446744073709551616) : Go.bits .or .u64 x y = x + y :=
  bits_join .u64 64 (by decide) wraps_u64 i x y h0 h1 h2 h3 h4 h5
theorem shl_u (x y : Int) (h0 : 0 ≤ y) (h1 : y ≤ 64) : shl .u64 x y = (x * 2 ^ y.toNat) % 18446744073709551616 := by
  unfold shl; rw [wu, show min y.toNat (IntKind.bits .u64) = y.toNat from Nat.min_eq_left (by simp [IntKind.bits]; omega)]
theorem shr_u (x y : Int) (h0 : 0 ≤ y) (h1 : y ≤ 64) : shr .u64 x y = x / 2 ^ y.toNat := by
  unfold shr; rw [show min y.toNat (IntKind.bits .u64) = y.toNat from Nat.min_eq_left (by simp [IntKind.bits]; omega)]
/-- one call behind another (no unfolding: the kernel need not look into what is called) -/
theorem bs {α β : Type} {x : Option α} {f : α → Option β} {a : α} {r : Option β} (h : x = some a) (h2 : f a = r) : x.bind f = r := by
  subst h; exact h2
theorem rd44_ok {l : List S44} (h : ∀ y_ ∈ l, okS44 y_) (i : Int) (h0 : 0 ≤ i) (h1 : i < l.length) : okS44 (rd_T44 l i) := by
  unfold rd_T44
  rw [List.getD_eq_getElem?_getD, List.getElem?_eq_getElem (by omega), Option.getD_some]
  exact h _ (List.getElem_mem _)
theorem awake17_k {k : Nat} (hk : 100 ≤ k) : terracelaw17_awake.f k = some true :=
  at_rounds (g := fun k => terracelaw17_awake.f k) (fun k => terracelaw17_awake.mono k) hk (by decide +kernel)
def okT (a : Int) : Prop := 0 ≤ a ∧ a ≤ 1099511627776
instance (a : Int) : Decidable (okT a) := by unfold okT; infer_instance
theorem time_f (a : Int) : suppress_time.f a = some (decide (okT a)) := by
  unfold suppress_time.f
  by_cases h : a ≥ 0
  · rw [if_pos h, show decide (a ≤ 1099511627776) = decide (okT a) from decide_eq_decide.mpr (by unfold okT; omega)]
  · rw [if_neg h, decide_eq_false (fun h2 : okT a => by unfold okT at h2; omega)]
theorem start_f (s0 s1 s2 : Int) (s3 : Bool) (a b c x : Int) {k : Nat} (hk : 2 ≤ k) :
    suppress_Round_Start.f k s0 s1 s2 s3 a b c x = some (if okT a ∧ okT b ∧ okT c then (if a ≤ s0 then (24, s0, s1, s2, s3) else (0, a, b + c, x, true)) else (11, s0, s1, s2, s3)) := by
  obtain ⟨k, rfl⟩ : ∃ m, k = m + 1 := ⟨k - 1, by omega⟩
  have bad : ∀ z, z = true → suppress_Round_Start.j0 (k + 1) a b c x z s0 s1 s2 s3 = some (11, s0, s1, s2, s3) := by
    rintro z rfl
    simp only [suppress_Round_Start.j0]; rw [if_pos trivial]
  unfold suppress_Round_Start.f
  refine bs (time_f a) ?_
  by_cases ha : okT a
  rotate_left
  · rw [if_neg (by simpa using ha), if_neg (fun h => ha h.1)]; exact bad _ rfl
  rw [if_pos (by simpa using ha)]
  refine bs (time_f b) ?_
  by_cases hb : okT b
  rotate_left
  · rw [if_neg (by simpa using hb), if_neg (fun h => hb h.2.1)]; exact bad _ rfl
  rw [if_pos (by simpa using hb)]
  refine bs (time_f c) ?_
  by_cases hc : okT c
  rotate_left
  · rw [if_neg (fun h => hc h.2.2)]; exact bad _ (by simpa using hc)
  rw [if_pos ⟨ha, hb, hc⟩]
  simp only [suppress_Round_Start.j0]
  rw [if_neg (by simpa using hc)]
  unfold okT at ha hb hc
  by_cases h : a ≤ s0
  · rw [if_pos h, if_pos h]
  · rw [if_neg h, if_neg h, w64 (by omega) (by omega)]
theorem fire_f (s0 s1 s2 : Int) (s3 : Bool) (a : Int) : suppress_Round_Fire.f s0 s1 s2 s3 a = some (if s3 = true ∧ s1 ≤ a then (true, s0, s1, s2, false) else (false, s0, s1, s2, s3)) := by
  unfold suppress_Round_Fire.f
  cases s3 with
  | false => rw [if_neg (by simp), if_neg (by simp)]
  | true =>
    rw [if_pos rfl]
    by_cases h : a < s1
    · rw [if_pos h, if_neg (by omega)]
    · rw [if_neg h, if_pos ⟨rfl, by omega⟩]
def low (x own : Int) : Prop := x - x / 8 ≤ own
instance (x own : Int) : Decidable (low x own) := by unfold low; infer_instance
theorem echo_f (s0 s1 s2 : Int) (s3 : Bool) (a x : Int) (hx : 0 ≤ x ∧ x ≤ 18446744073709551615) : suppress_Round_Echo.f s0 s1 s2 s3 a x = some (if s3 = true ∧ a = s0 ∧ low x s2 then (true, s0, s1, s2, false) else (false, s0, s1, s2, s3)) := by
  unfold suppress_Round_Echo.f
  cases s3 with
  | false => rw [if_neg (by simp), if_neg (by simp)]
  | true =>
    rw [if_pos rfl]
    by_cases h : a = s0
    · rw [if_pos h]
      have e1 : fix_F_Half.f x 3 = some (x / 8) := by
        unfold fix_F_Half.f; rw [show mx 3 0 = 3 by decide, shr_u _ _ (by omega) (by omega)]; rfl
      refine bs e1 ?_
      have e2 : fix_F_Sub.f x (x / 8) = some (x - x / 8) := by
        unfold fix_F_Sub.f; rw [if_neg (by omega), u64 (by omega) (by omega)]
      refine bs e2 ?_
      by_cases hl : low x s2
      · rw [if_neg (by unfold low at hl; omega), if_pos ⟨rfl, h, hl⟩]
      · rw [if_pos (by unfold low at hl; omega), if_neg (fun z => hl z.2.2)]
    · rw [if_neg h, if_neg (fun z => h z.2.1)]
theorem due_f (s0 s1 s2 : Int) (s3 : Bool) : suppress_Round_Due.f s0 s1 s2 s3 = some (if s3 = true then s1 else 0, s3, s0, s1, s2, s3) := by
  cases s3 <;> rfl
def Open (x : Int) (s : Bool) : Prop := (x = 1 ∧ s = true) ∨ (x = 0 ∧ s = false)
theorem once_l (l : List S44) (hl : l.length ≤ 100) (hok : ∀ y_ ∈ l, okS44 y_) (d : Nat) : ∀ (k : Nat) (x s0 s1 s2 : Int) (s3 : Bool) (i : Int), Open x s3 → 0 ≤ i → i + d = l.length → d + d + 300 < k →
    terracelaw17_SuppressOnce.l0 k x l (l.length : Int) i s0 s1 s2 s3 = some true := by
  induction d with
  | zero =>
    intro k x s0 s1 s2 s3 i _ h0 h1 hk
    obtain ⟨k, rfl, _⟩ := fuel hk
    simp only [terracelaw17_SuppressOnce.l0]
    rw [if_neg (by omega)]
    exact bs (awake17_k (by omega)) rfl
  | succ d ih =>
    intro k x s0 s1 s2 s3 i hO h0 h1 hk
    obtain ⟨k, rfl⟩ : ∃ m, k = m + 1 + 1 := ⟨k - 2, by omega⟩
    simp only [terracelaw17_SuppressOnce.l0]
    have ho := rd44_ok hok i h0 (by omega)
    have hx : 0 ≤ (rd_T44 l i).f4 ∧ (rd_T44 l i).f4 ≤ 18446744073709551615 := wf_u64 ho.2.2.2.2
    have fin : ∀ (k : Nat) (x s0 s1 s2 : Int) (s3 : Bool), Open x s3 → d + d + 300 < k → ((suppress_Round_Due.f s0 s1 s2 s3).bind fun bt => (if (bt.2.1 != (x == 1)) = true then (some false) else (terracelaw17_SuppressOnce.l0 k x l (l.length : Int) (wrap64 (i + 1)) bt.2.2.1 bt.2.2.2.1 bt.2.2.2.2.1 bt.2.2.2.2.2))) = some true := by
      intro k x s0 s1 s2 s3 hO hk
      refine bs (due_f s0 s1 s2 s3) ?_
      rw [if_neg (by rcases hO with ⟨rfl, rfl⟩ | ⟨rfl, rfl⟩ <;> simp), w64 (n := i + 1) (by omega) (by omega)]
      exact ih k x s0 s1 s2 s3 (i + 1) hO (by omega) (by omega) hk
    rw [if_pos (by omega), if_pos h0, if_pos (by omega)]
    by_cases c1 : (rd_T44 l i).f0 = 1
    · rw [if_pos c1]
      refine bs (start_f s0 s1 s2 s3 _ _ _ _ (by omega)) ?_
      by_cases g : okT (rd_T44 l i).f1 ∧ okT (rd_T44 l i).f2 ∧ okT (rd_T44 l i).f3
      · rw [if_pos g]
        by_cases g2 : (rd_T44 l i).f1 ≤ s0
        · rw [if_pos g2, if_neg (by simp)]; exact fin (k + 1) x s0 s1 s2 s3 hO (by omega)
        · rw [if_neg g2, if_pos rfl]; exact fin (k + 1) 1 _ _ _ true (.inl ⟨rfl, rfl⟩) (by omega)
      · rw [if_neg g, if_neg (by simp)]; exact fin (k + 1) x s0 s1 s2 s3 hO (by omega)
    rw [if_neg c1]
    by_cases c2 : (rd_T44 l i).f0 = 2
    · rw [if_pos c2]
      refine bs (rfl : suppress_Round_Own.f _ _ _ _ = _) ?_
      refine bs (echo_f s0 s1 s2 s3 _ _ hx) ?_
      by_cases g : s3 = true ∧ (rd_T44 l i).f1 = s0 ∧ low (rd_T44 l i).f4 s2
      · rw [if_pos g, if_pos rfl]
        have hx1 : x = 1 := by rcases hO with ⟨h, _⟩ | ⟨_, h⟩; exact h; rw [g.1] at h; cases h
        rw [if_pos hx1, Int.tdiv_eq_ediv_of_nonneg hx.1, u64 (n := (rd_T44 l i).f4 / 8) (by omega) (by omega), u64 (by omega) (by omega)]
        simp only [terracelaw17_SuppressOnce.j1]
        have hlow := g.2.2
        unfold low at hlow
        rw [if_neg (by simp; omega)]
        exact fin k 0 _ _ _ false (.inr ⟨rfl, rfl⟩) (by omega)
      · rw [if_neg g, if_neg (by simp)]; exact fin (k + 1) x s0 s1 s2 s3 hO (by omega)
    rw [if_neg c2]
    by_cases c3 : (rd_T44 l i).f0 = 3
    · rw [if_pos c3]
      refine bs (fire_f s0 s1 s2 s3 _) ?_
      by_cases g : s3 = true ∧ s1 ≤ (rd_T44 l i).f1
      · rw [if_pos g, if_pos rfl]
        have hx1 : x = 1 := by rcases hO with ⟨h, _⟩ | ⟨_, h⟩; exact h; rw [g.1] at h; cases h
        rw [if_pos hx1]
        exact fin (k + 1) 0 _ _ _ false (.inr ⟨rfl, rfl⟩) (by omega)
      · rw [if_neg g, if_neg (by simp)]; exact fin (k + 1) x s0 s1 s2 s3 hO (by omega)
    rw [if_neg c3]
    exact fin (k + 1) x s0 s1 s2 s3 hO (by omega)
theorem SuppressOnce : terracelaw17_SuppressOnce.Pure := by
  intro l hl hok
  refine ⟨2000, ?_⟩
  unfold terracelaw17_SuppressOnce.f
  refine bs (rfl : suppress_New.f = _) ?_
  by_cases c : (l.length : Int) > 100
  · rw [if_pos c]; exact bs (awake17_k (by omega)) rfl
  rw [if_neg c]
  exact once_l l (by omega) hok l.length 2000 0 _ _ _ _ 0 (.inr ⟨rfl, rfl⟩) (by omega) (by omega) (by omega)

end Go.Proofs.Ytejminfpgnlpkaa.Pure
