/- Proved: a copy tells the same, and goes on by itself (for every input that the statement's guards let in; the Go function returns true and leaves its arguments as they were). -/
import Derived.Test.YtkaglddebpmcmaaPBucketCopiesx3
set_option linter.unusedVariables false
set_option linter.unusedSimpArgs false
namespace Go.Proofs.Ytkaglddebpmcmaa.Pure
open Go.RowKit Go.Proofs.Ytkaglddebpmcmaa.PBucketCopies Go.Proofs.YtkaglddebpmcmaaW.PrintWords Go.Proofs.YtkaglddebpmcmaaW.PrintLast Go.Proofs.YtkaglddebpmcmaaW.PrintMore

theorem wf_u8 {a : Int} (h : (Lit.int .u8 a).wf = true) : 0 ≤ a ∧ a ≤ 255 := by
  simpa [Lit.wf, IntKind.min, IntKind.max, IntKind.signed, IntKind.bits] using h
theorem wf_u16 {a : Int} (h : (Lit.int .u16 a).wf = true) : 0 ≤ a ∧ a ≤ 65535 := by
  simpa [Lit.wf, IntKind.min, IntKind.max, IntKind.signed, IntKind.bits] using h
theorem wf_u32 {a : Int} (h : (Lit.int .u32 a).wf = true) : 0 ≤ a ∧ a ≤ 4294967295 := by
  simpa [Lit.wf, IntKind.min, IntKind.max, IntKind.signed, IntKind.bits] using h
theorem wf_u64 {a : Int} (h : (Lit.int .u64 a).wf = true) : 0 ≤ a ∧ a ≤ 18446744073709551615 := by
  simpa [Lit.wf, IntKind.min, IntKind.max, IntKind.signed, IntKind.bits] using h
theorem wf_i64 {a : Int} (h : (Lit.int .i64 a).wf = true) : -9223372036854775808 ≤ a ∧ a ≤ 9223372036854775807 := by
  simpa [Lit.wf, IntKind.min, IntKind.max, IntKind.signed, IntKind.bits] using h
theorem w64 {n : Int} (h : -9223372036854775808 ≤ n) (h' : n ≤ 9223372036854775807) : wrap64 n = n := by
  unfold wrap64; omega
theorem fuel {k n : Nat} (h : n < k) : ∃ m, k = m + 1 ∧ n ≤ m := ⟨k - 1, by omega, by omega⟩
theorem u64 {n : Int} (h : 0 ≤ n) (h' : n ≤ 18446744073709551615) : IntKind.u64.wrap n = n := by
  simp only [IntKind.wrap, IntKind.bits, IntKind.signed]; simp; omega
theorem wu (n : Int) : IntKind.u64.wrap n = n % 18446744073709551616 := by
  simp [IntKind.wrap, IntKind.bits, IntKind.signed]
theorem wraps_u64 (n : Int) (h0 : 0 ≤ n) (h1 : n < 2 ^ 64) : IntKind.u64.wrap n = n := by rw [wu]; omega
theorem and32 (x : Int) (h0 : 0 ≤ x) (h1 : x < 18446744073709551616) : Go.bits .and .u64 x 4294967295 = x % 4294967296 :=
  bits_mask .u64 64 (by decide) wraps_u64 32 (by decide) x h0 h1
theorem or_join (i : Nat) (x y : Int) (h0 : 0 ≤ x) (h1 : x % 2 ^ i = 0) (h2 : x < 18446744073709551616) (h3 : 0 ≤ y) (h4 : y < 2 ^ i) (h5 : y < 18446744073709551616) : Go.bits .or .u64 x y = x + y :=
  bits_join .u64 64 (by decide) wraps_u64 i x y h0 h1 h2 h3 h4 h5
theorem shl_u (x y : Int) (h0 : 0 ≤ y) (h1 : y ≤ 64) : shl .u64 x y = (x * 2 ^ y.toNat) % 18446744073709551616 := by
  unfold shl; rw [wu, show min y.toNat (IntKind.bits .u64) = y.toNat from Nat.min_eq_left (by simp [IntKind.bits]; omega)]
theorem shr_u (x y : Int) (h0 : 0 ≤ y) (h1 : y ≤ 64) : shr .u64 x y = x / 2 ^ y.toNat := by
  unfold shr; rw [show min y.toNat (IntKind.bits .u64) = y.toNat from Nat.min_eq_left (by simp [IntKind.bits]; omega)]
/-- one call behind another (no unfolding: the kernel need not look into what is called) -/
theorem bs {α β : Type} {x : Option α} {f : α → Option β} {a : α} {r : Option β} (h : x = some a) (h2 : f a = r) : x.bind f = r := by
  subst h; exact h2
def addv (a b : Int) : Int := if a + b > 18446744073709551615 then 18446744073709551615 else a + b
theorem add_f (a b : Int) (ha : 0 ≤ a ∧ a ≤ 18446744073709551615) (hb : 0 ≤ b ∧ b ≤ 18446744073709551615) : fix_F_Add.f a b = some (addv a b) := by
  unfold fix_F_Add.f addv addC addS
  by_cases h : a + b > 18446744073709551615
  · rw [if_neg (by omega), if_pos h]
  · rw [if_pos (by omega), if_neg h]; congr 1; omega
theorem addv_range (a b : Int) (ha : 0 ≤ a ∧ a ≤ 18446744073709551615) (hb : 0 ≤ b ∧ b ≤ 18446744073709551615) : 0 ≤ addv a b ∧ addv a b ≤ 18446744073709551615 := by
  unfold addv; split <;> omega
theorem awake20_k {k : Nat} (hk : 100 ≤ k) : terracelaw20_awake.f k = some true :=
  at_rounds (g := fun k => terracelaw20_awake.f k) (fun k => terracelaw20_awake.mono k) hk (by decide +kernel)
def R64 (x : Int) : Prop := 0 ≤ x ∧ x ≤ 18446744073709551615
theorem of_f (a : Int) (h0 : 0 ≤ a) (h1 : a ≤ 4294967295) : fix_Of.f a = some (a * 4294967296) := by
  unfold fix_Of.f; rw [u64 h0 (by omega), u64 (by omega) (by omega)]
def can (s t n : Int) : Prop := 1 ≤ n ∧ n ≤ s ∧ n * 4294967296 ≤ t
instance (s t n : Int) : Decidable (can s t n) := by unfold can; infer_instance
theorem fill_f (s t p x : Int) (ht : R64 t) (hx : R64 x) : bucket_Bucket_Fill.f s t p x = some (s, addv t x, p) := by
  unfold bucket_Bucket_Fill.f
  exact bs (add_f t x ht hx) rfl
theorem can_f (s t p n : Int) (hs : 1 ≤ s ∧ s ≤ 320) : bucket_Bucket_Can.f s t p n = some (decide (can s t n), s, t, p) := by
  unfold bucket_Bucket_Can.f
  by_cases h1 : n ≥ 1
  · rw [if_pos h1]
    by_cases h2 : n ≤ s
    · rw [if_pos h2, show n % 4294967296 = n by omega]
      refine bs (of_f n (by omega) (by omega)) ?_
      rw [show decide (t ≥ n * 4294967296) = decide (can s t n) from decide_eq_decide.mpr (by unfold can; omega)]
    · rw [if_neg h2, decide_eq_false (fun h : can s t n => by unfold can at h; omega)]
  · rw [if_neg h1, decide_eq_false (fun h : can s t n => by unfold can at h; omega)]
theorem spend_f (s t p n : Int) (hs : 1 ≤ s ∧ s ≤ 320) (ht : R64 t) : bucket_Bucket_Spend.f s t p n = some (if can s t n then (true, s, t - n * 4294967296, wrap64 (p + n)) else (false, s, t, p)) := by
  unfold bucket_Bucket_Spend.f
  refine bs (can_f s t p n hs) ?_
  by_cases h : can s t n
  · rw [if_pos (by simpa using h), if_pos h]
    unfold can R64 at *
    rw [show n % 4294967296 = n by omega]
    refine bs (of_f n (by omega) (by omega)) ?_
    have e : fix_F_Sub.f t (n * 4294967296) = some (t - n * 4294967296) := by
      unfold fix_F_Sub.f; rw [if_neg (by omega), u64 (by omega) (by omega)]
    exact bs e rfl
  · rw [if_neg (by simpa using h), if_neg h]
theorem end_f (s t p : Int) (hs : 1 ≤ s ∧ s ≤ 320) : bucket_Bucket_End.f s t p = some (s, mn t (s * 4294967296), p) := by
  unfold bucket_Bucket_End.f
  rw [show s % 4294967296 = s by omega]
  exact bs (of_f s (by omega) (by omega)) rfl
theorem new_ok {a : Int} (h : 1 ≤ a ∧ a ≤ 320) : bucket_New.f a = some (a, 0, 0, 0) := by
  unfold bucket_New.f; rw [if_neg (by omega), if_neg (by omega)]
theorem new_no {a : Int} (h : ¬(1 ≤ a ∧ a ≤ 320)) : bucket_New.f a = none := by
  unfold bucket_New.f
  by_cases h1 : a < 1
  · rw [if_pos h1]
  · rw [if_neg h1, if_pos (by omega)]
theorem new_err {a : Int} (h : ¬(1 ≤ a ∧ a ≤ 320)) : bucket_New_no.f a = some 11 := by
  unfold bucket_New_no.f
  by_cases h1 : a < 1
  · rw [if_pos h1]
  · rw [if_neg h1, if_pos (by omega)]
theorem R64_add {x y : Int} (hx : R64 x) (hy : R64 y) : R64 (addv x y) := addv_range x y hx hy
theorem R64_end {t s : Int} (ht : R64 t) (hs : 1 ≤ s ∧ s ≤ 320) : R64 (mn t (s * 4294967296)) := by unfold mn R64 at *; split <;> omega
theorem rd33_ok {l : List S33} (h : ∀ y_ ∈ l, okS33 y_) (i : Int) (h0 : 0 ≤ i) (h1 : i < l.length) : okS33 (rd_T33 l i) := by
  unfold rd_T33
  rw [List.getD_eq_getElem?_getD, List.getElem?_eq_getElem (by omega), Option.getD_some]
  exact h _ (List.getElem_mem _)
theorem ml {n : Nat} (h : n ≤ maxLen) : (n : Int) ≤ 9223372036854775807 := by unfold maxLen at h; omega
theorem small_some (l : List S33) (hl : l.length ≤ maxLen) (d : Nat) : ∀ (k : Nat) (n i : Int), 0 ≤ i → i + d = l.length → d < k → ∃ b, terracelaw20_small.l0 k n l (l.length : Int) i = some b := by
  have := ml hl
  induction d with
  | zero =>
    intro k n i h0 h1 hk
    obtain ⟨k, rfl, hk⟩ := fuel hk
    simp only [terracelaw20_small.l0]
    rw [if_neg (by omega)]; exact ⟨_, rfl⟩
  | succ d ih =>
    intro k n i h0 h1 hk
    obtain ⟨k, rfl, hk⟩ := fuel hk
    simp only [terracelaw20_small.l0]
    rw [if_pos (by omega), if_pos h0, if_pos (by omega), w64 (n := i + 1) (by omega) (by omega)]
    exact ih k _ (i + 1) (by omega) (by omega) (by omega)
/-- small's answer is one, whatever the rounds -/
theorem small_one (l : List S33) (hl : l.length ≤ maxLen) : ∃ b, ∀ k, l.length < k → terracelaw20_small.f k l = some b := by
  unfold terracelaw20_small.f
  obtain ⟨b, hb⟩ := small_some l hl l.length (l.length + 1) l.length 0 (by omega) (by omega) (by omega)
  exact ⟨b, fun k hk => at_rounds (g := fun k => terracelaw20_small.f k l) (fun k => terracelaw20_small.mono l k) (show l.length + 1 ≤ k by omega) hb⟩
theorem pin_l (s : Int) (hs : 1 ≤ s ∧ s ≤ 320) (L : List S33) (n i : Int) (z : List Int) (hz : z.length ≤ maxLen)
    (hnext : ∀ t p, R64 t → ∃ t' p', R64 t' ∧ ∃ K, ∀ k, K ≤ k → terracelaw20_BucketCopies_1.l0 k L n (wrap64 (i + 1)) s t p = some (s, t', p')) (d : Nat) :
    ∀ (t p j : Int), R64 t → 0 ≤ j → j + d = z.length → ∃ t' p', R64 t' ∧ ∃ K, ∀ k, K ≤ k → terracelaw20_BucketCopies_1.l1 k L n i z (z.length : Int) j s t p = some (s, t', p') := by
  have hm := ml hz
  induction d with
  | zero =>
    intro t p j ht h0 h1
    obtain ⟨t', p', ht', K, hK⟩ := hnext (mn t (s * 4294967296)) p (R64_end ht hs)
    refine ⟨t', p', ht', K + 1, fun k hk => ?_⟩
    obtain ⟨k, rfl, _⟩ := fuel (show K < k by omega)
    simp only [terracelaw20_BucketCopies_1.l1]
    rw [if_neg (by omega)]
    refine bs (end_f s t p hs) ?_
    exact hK k (by omega)
  | succ d ih =>
    intro t p j ht h0 h1
    have ht2 : R64 (if can s t (rd z j) then (true, s, t - rd z j * 4294967296, wrap64 (p + rd z j)) else (false, s, t, p)).2.2.1 := by
      split
      · rename_i hc; unfold can R64 at *; dsimp only; omega
      · exact ht
    obtain ⟨t', p', ht', K, hK⟩ := ih _ (if can s t (rd z j) then (true, s, t - rd z j * 4294967296, wrap64 (p + rd z j)) else (false, s, t, p)).2.2.2 (j + 1) ht2 (by omega) (by omega)
    refine ⟨t', p', ht', K + 1, fun k hk => ?_⟩
    obtain ⟨k, rfl, _⟩ := fuel (show K < k by omega)
    simp only [terracelaw20_BucketCopies_1.l1]
    rw [if_pos (by omega), if_pos h0, if_pos (by omega)]
    refine bs (spend_f s t p _ hs ht) ?_
    rw [w64 (n := j + 1) (by omega) (by omega)]
    have e : (if can s t (rd z j) then (true, s, t - rd z j * 4294967296, wrap64 (p + rd z j)) else (false, s, t, p)).2.1 = s := by split <;> rfl
    rw [e]
    exact hK k (by omega)
theorem pout_l (s : Int) (hs : 1 ≤ s ∧ s ≤ 320) (L : List S33) (hL : L.length ≤ maxLen) (hok : ∀ y_ ∈ L, okS33 y_) (d : Nat) :
    ∀ (t p i : Int), R64 t → 0 ≤ i → i + d = L.length → ∃ t' p', R64 t' ∧ ∃ K, ∀ k, K ≤ k → terracelaw20_BucketCopies_1.l0 k L (L.length : Int) i s t p = some (s, t', p') := by
  have hm := ml hL
  induction d with
  | zero =>
    intro t p i ht h0 h1
    refine ⟨t, p, ht, 1, fun k hk => ?_⟩
    obtain ⟨k, rfl, _⟩ := fuel (show 0 < k by omega)
    simp only [terracelaw20_BucketCopies_1.l0]
    rw [if_neg (by omega)]
  | succ d ih =>
    intro t p i ht h0 h1
    have ho := rd33_ok hok i h0 (by omega)
    have hx : R64 (rd_T33 L i).f0 := wf_u64 ho.1
    obtain ⟨t', p', ht', K, hK⟩ := pin_l s hs L (L.length : Int) i (rd_T33 L i).f1 ho.2.1 (fun t p ht => by
      rw [w64 (n := i + 1) (by omega) (by omega)]
      exact ih t p (i + 1) ht (by omega) (by omega)) (rd_T33 L i).f1.length (addv t (rd_T33 L i).f0) p 0 (R64_add ht hx) (by omega) (by omega)
    refine ⟨t', p', ht', K + 1, fun k hk => ?_⟩
    obtain ⟨k, rfl, _⟩ := fuel (show K < k by omega)
    simp only [terracelaw20_BucketCopies_1.l0]
    rw [if_pos (by omega), if_pos h0, if_pos (by omega)]
    refine bs (fill_f s t p _ ht hx) ?_
    exact hK k (by omega)
theorem BucketCopies : terracelaw20_BucketCopies.Pure := by
  intro a0 L M h0 hL hok hM hok2
  obtain ⟨b, hb⟩ := small_one L hL
  obtain ⟨c, hc⟩ := small_one M hM
  have key : ∀ K b, b = true → terracelaw20_BucketCopies.j0 (K + 1000) a0 L M b = some true := by
    rintro K b rfl
    rw [show K + 1000 = K + 999 + 1 from rfl]
    simp only [terracelaw20_BucketCopies.j0]
    rw [if_pos trivial]
    exact bs (awake20_k (by omega)) rfl
  by_cases hall : b = true ∧ c = true ∧ 1 ≤ a0 ∧ a0 ≤ 320
  rotate_left
  · refine ⟨L.length + M.length + 1 + 1000, ?_⟩
    unfold terracelaw20_BucketCopies.f
    refine bs (hb _ (by omega)) ?_
    by_cases e1 : b = true
    rotate_left
    · rw [if_neg e1]; exact key _ _ rfl
    rw [if_pos e1]
    refine bs (hc _ (by omega)) ?_
    by_cases e2 : c = true
    rotate_left
    · rw [if_neg e2]; exact key _ _ rfl
    rw [if_pos e2]
    by_cases e3 : a0 < 1
    · rw [if_pos e3]; exact key _ _ rfl
    · rw [if_neg e3]
      have hs : ¬(1 ≤ a0 ∧ a0 ≤ 320) := fun h => hall ⟨e1, e2, h⟩
      exact key _ _ (by simp; omega)
  obtain ⟨rfl, rfl, hs⟩ := hall
  obtain ⟨t1, p1, ht1, K1, hK1⟩ := pout_l a0 hs L hL hok L.length 0 0 0 (by unfold R64; omega) (by omega) (by omega)
  obtain ⟨t2, p2, ht2, K2, hK2⟩ := pout_l a0 hs M hM hok2 M.length t1 p1 0 ht1 (by omega) (by omega)
  refine ⟨K1 + K2 + L.length + M.length + 1000 + 1 + 1 + 1, ?_⟩
  unfold terracelaw20_BucketCopies.f
  refine bs (hb _ (by omega)) ?_
  rw [if_pos rfl]
  refine bs (hc _ (by omega)) ?_
  rw [if_pos rfl, if_neg (by omega)]
  simp only [terracelaw20_BucketCopies.j0]
  rw [if_neg (by simp; omega), if_pos (by unfold bucket_New.ok; rw [new_ok hs]; rfl)]
  refine bs (new_ok hs) ?_
  rw [if_pos rfl]
  simp only [terracelaw20_BucketCopies.j1]
  rw [if_neg (by simp)]
  have f1 : ∀ k, K1 ≤ k → terracelaw20_BucketCopies_1.f k a0 0 0 L = some (a0, t1, p1) := fun k hk => hK1 k hk
  have f2 : ∀ k, K2 ≤ k → terracelaw20_BucketCopies_1.f k a0 t1 p1 M = some (a0, t2, p2) := fun k hk => hK2 k hk
  refine bs (f1 _ (by omega)) ?_
  refine bs (rfl : bucket_Bucket_Copy.f _ _ _ = _) ?_
  refine bs (rfl : bucket_Bucket_Tokens.f _ _ _ = _) ?_
  refine bs (rfl : bucket_Bucket_Spent.f _ _ _ = _) ?_
  refine bs (f2 _ (by omega)) ?_
  refine bs (rfl : bucket_Bucket_Tokens.f _ _ _ = _) ?_
  rw [if_pos rfl]
  refine bs (rfl : bucket_Bucket_Spent.f _ _ _ = _) ?_
  simp only [terracelaw20_BucketCopies.j2]
  rw [if_neg (by simp)]
  refine bs (f2 _ (by omega)) ?_
  refine bs (rfl : bucket_Bucket_Tokens.f _ _ _ = _) ?_
  refine bs (rfl : bucket_Bucket_Tokens.f _ _ _ = _) ?_
  rw [if_pos rfl]
  refine bs (rfl : bucket_Bucket_Spent.f _ _ _ = _) ?_
  refine bs (rfl : bucket_Bucket_Spent.f _ _ _ = _) ?_
  rw [if_pos rfl]
  exact bs (awake20_k (by omega)) rfl

end Go.Proofs.Ytkaglddebpmcmaa.Pure
