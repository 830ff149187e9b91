/- Proved: who always sends, packets of one size, sends as many bytes as the rates allow, but for less than one packet and what is above the size (for every input that the statement's guards let in; the Go function returns true and leaves its arguments as they were). -/
import Derived.Test.YtkaglddebpmcmaaPBucketFullx3
set_option linter.unusedVariables false
set_option linter.unusedSimpArgs false
namespace Go.Proofs.Ytkaglddebpmcmaa.Pure
open Go.RowKit Go.Proofs.Ytkaglddebpmcmaa.PBucketFull Go.Proofs.YtkaglddebpmcmaaW.PrintWords Go.Proofs.YtkaglddebpmcmaaW.PrintLast Go.Proofs.YtkaglddebpmcmaaW.PrintMore

theorem wf_u8 {a : Int} (h : (Lit.int .u8 a).wf = true) : 0 ≤ a ∧ a ≤ 255 := by
  simpa [Lit.wf, IntKind.min, IntKind.max, IntKind.signed, IntKind.bits] using h
theorem wf_u16 {a : Int} (h : (Lit.int .u16 a).wf = true) : 0 ≤ a ∧ a ≤ 65535 := by
  simpa [Lit.wf, IntKind.min, IntKind.max, IntKind.signed, IntKind.bits] using h
theorem wf_u32 {a : Int} (h : (Lit.int .u32 a).wf = true) : 0 ≤ a ∧ a ≤ 4294967295 := by
  simpa [Lit.wf, IntKind.min, IntKind.max, IntKind.signed, IntKind.bits] using h
theorem wf_u64 {a : Int} (h : (Lit.int .u64 a).wf = true) : 0 ≤ a ∧ a ≤ 18446744073709551615 := by
  simpa [Lit.wf, IntKind.min, IntKind.max, IntKind.signed, IntKind.bits] using h
theorem wf_i64 {a : Int} (h : (Lit.int .i64 a).wf = true) : -9223372036854775808 ≤ a ∧ a ≤ 9223372036854775807 := by
  simpa [Lit.wf, IntKind.min, IntKind.max, IntKind.signed, IntKind.bits] using h
theorem w64 {n : Int} (h : -9223372036854775808 ≤ n) (h' : n ≤ 9223372036854775807) : wrap64 n = n := by
  unfold wrap64; omega
theorem fuel {k n : Nat} (h : n < k) : ∃ m, k = m + 1 ∧ n ≤ m := ⟨k - 1, by omega, by omega⟩
theorem u64 {n : Int} (h : 0 ≤ n) (h' : n ≤ 18446744073709551615) : IntKind.u64.wrap n = n := by
  simp only [IntKind.wrap, IntKind.bits, IntKind.signed]; simp; omega
theorem wu (n : Int) : IntKind.u64.wrap n = n % 18446744073709551616 := by
  simp [IntKind.wrap, IntKind.bits, IntKind.signed]
theorem wraps_u64 (n : Int) (h0 : 0 ≤ n) (h1 : n < 2 ^ 64) : IntKind.u64.wrap n = n := by rw [wu]; omega
theorem and32 (x : Int) (h0 : 0 ≤ x) (h1 : x < 18446744073709551616) : Go.bits .and .u64 x 4294967295 = x % 4294967296 :=
  bits_mask .u64 64 (by decide) wraps_u64 32 (by decide) x h0 h1
theorem or_join (i : Nat) (x y : Int) (h0 : 0 ≤ x) (h1 : x % 2 ^ i = 0) (h2 : x < 18446744073709551616) (h3 : 0 ≤ y) (h4 : y < 2 ^ i) (h5 : y < 18446744073709551616) : Go.bits .or .u64 x y = x + y :=
  bits_join .u64 64 (by decide) wraps_u64 i x y h0 h1 h2 h3 h4 h5
theorem shl_u (x y : Int) (h0 : 0 ≤ y) (h1 : y ≤ 64) : shl .u64 x y = (x * 2 ^ y.toNat) % 18446744073709551616 := by
  unfold shl; rw [wu, show min y.toNat (IntKind.bits .u64) = y.toNat from Nat.min_eq_left (by simp [IntKind.bits]; omega)]
theorem shr_u (x y : Int) (h0 : 0 ≤ y) (h1 : y ≤ 64) : shr .u64 x y = x / 2 ^ y.toNat := by
  unfold shr; rw [show min y.toNat (IntKind.bits .u64) = y.toNat from Nat.min_eq_left (by simp [IntKind.bits]; omega)]
/-- one call behind another (no unfolding: the kernel need not look into what is called) -/
theorem bs {α β : Type} {x : Option α} {f : α → Option β} {a : α} {r : Option β} (h : x = some a) (h2 : f a = r) : x.bind f = r := by
  subst h; exact h2
def addv (a b : Int) : Int := if a + b > 18446744073709551615 then 18446744073709551615 else a + b
theorem add_f (a b : Int) (ha : 0 ≤ a ∧ a ≤ 18446744073709551615) (hb : 0 ≤ b ∧ b ≤ 18446744073709551615) : fix_F_Add.f a b = some (addv a b) := by
  unfold fix_F_Add.f addv addC addS
  by_cases h : a + b > 18446744073709551615
  · rw [if_neg (by omega), if_pos h]
  · rw [if_pos (by omega), if_neg h]; congr 1; omega
theorem addv_range (a b : Int) (ha : 0 ≤ a ∧ a ≤ 18446744073709551615) (hb : 0 ≤ b ∧ b ≤ 18446744073709551615) : 0 ≤ addv a b ∧ addv a b ≤ 18446744073709551615 := by
  unfold addv; split <;> omega
theorem awake20_k {k : Nat} (hk : 100 ≤ k) : terracelaw20_awake.f k = some true :=
  at_rounds (g := fun k => terracelaw20_awake.f k) (fun k => terracelaw20_awake.mono k) hk (by decide +kernel)
def R64 (x : Int) : Prop := 0 ≤ x ∧ x ≤ 18446744073709551615
theorem of_f (a : Int) (h0 : 0 ≤ a) (h1 : a ≤ 4294967295) : fix_Of.f a = some (a * 4294967296) := by
  unfold fix_Of.f; rw [u64 h0 (by omega), u64 (by omega) (by omega)]
def can (s t n : Int) : Prop := 1 ≤ n ∧ n ≤ s ∧ n * 4294967296 ≤ t
instance (s t n : Int) : Decidable (can s t n) := by unfold can; infer_instance
theorem fill_f (s t p x : Int) (ht : R64 t) (hx : R64 x) : bucket_Bucket_Fill.f s t p x = some (s, addv t x, p) := by
  unfold bucket_Bucket_Fill.f
  exact bs (add_f t x ht hx) rfl
theorem can_f (s t p n : Int) (hs : 1 ≤ s ∧ s ≤ 320) : bucket_Bucket_Can.f s t p n = some (decide (can s t n), s, t, p) := by
  unfold bucket_Bucket_Can.f
  by_cases h1 : n ≥ 1
  · rw [if_pos h1]
    by_cases h2 : n ≤ s
    · rw [if_pos h2, show n % 4294967296 = n by omega]
      refine bs (of_f n (by omega) (by omega)) ?_
      rw [show decide (t ≥ n * 4294967296) = decide (can s t n) from decide_eq_decide.mpr (by unfold can; omega)]
    · rw [if_neg h2, decide_eq_false (fun h : can s t n => by unfold can at h; omega)]
  · rw [if_neg h1, decide_eq_false (fun h : can s t n => by unfold can at h; omega)]
theorem spend_f (s t p n : Int) (hs : 1 ≤ s ∧ s ≤ 320) (ht : R64 t) : bucket_Bucket_Spend.f s t p n = some (if can s t n then (true, s, t - n * 4294967296, wrap64 (p + n)) else (false, s, t, p)) := by
  unfold bucket_Bucket_Spend.f
  refine bs (can_f s t p n hs) ?_
  by_cases h : can s t n
  · rw [if_pos (by simpa using h), if_pos h]
    unfold can R64 at *
    rw [show n % 4294967296 = n by omega]
    refine bs (of_f n (by omega) (by omega)) ?_
    have e : fix_F_Sub.f t (n * 4294967296) = some (t - n * 4294967296) := by
      unfold fix_F_Sub.f; rw [if_neg (by omega), u64 (by omega) (by omega)]
    exact bs e rfl
  · rw [if_neg (by simpa using h), if_neg h]
theorem end_f (s t p : Int) (hs : 1 ≤ s ∧ s ≤ 320) : bucket_Bucket_End.f s t p = some (s, mn t (s * 4294967296), p) := by
  unfold bucket_Bucket_End.f
  rw [show s % 4294967296 = s by omega]
  exact bs (of_f s (by omega) (by omega)) rfl
theorem new_ok {a : Int} (h : 1 ≤ a ∧ a ≤ 320) : bucket_New.f a = some (a, 0, 0, 0) := by
  unfold bucket_New.f; rw [if_neg (by omega), if_neg (by omega)]
theorem new_no {a : Int} (h : ¬(1 ≤ a ∧ a ≤ 320)) : bucket_New.f a = none := by
  unfold bucket_New.f
  by_cases h1 : a < 1
  · rw [if_pos h1]
  · rw [if_neg h1, if_pos (by omega)]
theorem new_err {a : Int} (h : ¬(1 ≤ a ∧ a ≤ 320)) : bucket_New_no.f a = some 11 := by
  unfold bucket_New_no.f
  by_cases h1 : a < 1
  · rw [if_pos h1]
  · rw [if_neg h1, if_pos (by omega)]
theorem R64_add {x y : Int} (hx : R64 x) (hy : R64 y) : R64 (addv x y) := addv_range x y hx hy
theorem R64_end {t s : Int} (ht : R64 t) (hs : 1 ≤ s ∧ s ≤ 320) : R64 (mn t (s * 4294967296)) := by unfold mn R64 at *; split <;> omega
theorem full_in (rate n m i : Int) (hn : 1 ≤ n ∧ n ≤ 320)
    (hnext : ∀ t p, 0 ≤ t → t < n * 4294967296 → 0 ≤ p → p * 4294967296 + t = rate * (i + 1) → ∃ K, ∀ k, K ≤ k → terracelaw20_BucketFull.l0 k rate n m m (wrap64 (i + 1)) n t p = some true)
    (hb : rate * (i + 1) ≤ 2000 * 4294967296 * 200) (q : Nat) :
    ∀ t p, 0 ≤ t → t < (q + 1 : Int) * (n * 4294967296) → 0 ≤ p → p * 4294967296 + t = rate * (i + 1) → ∃ K, ∀ k, K ≤ k → terracelaw20_BucketFull.l1 k rate n m m i n t p = some true := by
  have last : ∀ t p, 0 ≤ t → t < n * 4294967296 → 0 ≤ p → p * 4294967296 + t = rate * (i + 1) → ∃ K, ∀ k, K ≤ k → terracelaw20_BucketFull.l1 k rate n m m i n t p = some true := by
    intro t p h0 h1 h2 h3
    obtain ⟨K, hK⟩ := hnext t p h0 h1 h2 h3
    refine ⟨K + 1, fun k hk => ?_⟩
    obtain ⟨k, rfl, _⟩ := fuel (show K < k by omega)
    simp only [terracelaw20_BucketFull.l1]
    refine bs (spend_f n t p n hn (by unfold R64; omega)) ?_
    have hc : ¬ can n t n := fun h => by unfold can at h; omega
    rw [if_neg hc, if_neg (by simp)]
    refine bs (rfl : bucket_Bucket_Tokens.f _ _ _ = _) ?_
    rw [show n % 4294967296 = n by omega]
    refine bs (of_f n (by omega) (by omega)) ?_
    rw [if_neg (by dsimp only; omega)]
    refine bs (end_f n t p hn) ?_
    rw [show mn t (n * 4294967296) = t by unfold mn; rw [if_neg (by omega)]]
    exact hK k (by omega)
  induction q with
  | zero => intro t p h0 h1 h2 h3; exact last t p h0 (by omega) h2 h3
  | succ q ih =>
    intro t p h0 h1 h2 h3
    by_cases hc : t < n * 4294967296
    · exact last t p h0 hc h2 h3
    · have e : (q : Int) + 1 + 1 = ((q + 1 : Nat) : Int) + 1 := by omega
      obtain ⟨K, hK⟩ := ih (t - n * 4294967296) (p + n) (by omega) (by
        have : ((q : Int) + 1 + 1) * (n * 4294967296) = ((q : Int) + 1) * (n * 4294967296) + n * 4294967296 := by rw [Int.add_mul, Int.one_mul]
        rw [e] at this
        omega) (by omega) (by omega)
      refine ⟨K + 1, fun k hk => ?_⟩
      obtain ⟨k, rfl, _⟩ := fuel (show K < k by omega)
      simp only [terracelaw20_BucketFull.l1]
      refine bs (spend_f n t p n hn (by unfold R64; omega)) ?_
      rw [if_pos (show can n t n by unfold can; omega), if_pos rfl]
      dsimp only
      rw [w64 (n := p + n) (by omega) (by omega)]
      exact hK k (by omega)
theorem full_out (rate n m : Int) (hn : 1 ≤ n ∧ n ≤ 320) (hr : 0 ≤ rate ∧ rate ≤ 2000 * 4294967296) (hm : 0 ≤ m ∧ m ≤ 200) (d : Nat) :
    ∀ t p i, 0 ≤ i → i + d = m → 0 ≤ t → t < n * 4294967296 → 0 ≤ p → p * 4294967296 + t = rate * i → ∃ K, ∀ k, K ≤ k → terracelaw20_BucketFull.l0 k rate n m m i n t p = some true := by
  induction d with
  | zero =>
    intro t p i h0 h1 h2 h3 h4 h5
    obtain rfl : i = m := by omega
    have hb : rate * i ≤ 2000 * 4294967296 * 200 := Int.mul_le_mul hr.2 hm.2 h0 (by omega)
    refine ⟨200, fun k hk => ?_⟩
    obtain ⟨k, rfl, _⟩ := fuel (show 199 < k by omega)
    simp only [terracelaw20_BucketFull.l0]
    rw [if_neg (by omega)]
    refine bs (rfl : bucket_Bucket_Spent.f _ _ _ = _) ?_
    dsimp only
    rw [u64 (n := i) (by omega) (by omega), u64 (n := p) (by omega) (by omega), u64 (n := n) (by omega) (by omega), u64 (n := rate * i) (by omega) (by omega)]
    rw [if_pos (by omega)]
    refine bs (rfl : bucket_Bucket_Spent.f _ _ _ = _) ?_
    dsimp only
    rw [u64 (n := p) (by omega) (by omega), u64 (n := p + n) (by omega) (by omega), if_pos (by omega)]
    exact bs (awake20_k (by omega)) rfl
  | succ d ih =>
    intro t p i h0 h1 h2 h3 h4 h5
    have hb : rate * (i + 1) ≤ 2000 * 4294967296 * 200 := Int.mul_le_mul hr.2 (by omega) (by omega) (by omega)
    have e : rate * (i + 1) = rate * i + rate := by rw [Int.mul_add, Int.mul_one]
    obtain ⟨K, hK⟩ := full_in rate n m i hn (fun t p h0' h1' h2' h3' => by
      rw [w64 (n := i + 1) (by omega) (by omega)]
      exact ih t p (i + 1) (by omega) (by omega) h0' h1' h2' h3') hb 3000 (t + rate) p (by omega) (by omega) h4 (by omega)
    refine ⟨K + 1, fun k hk => ?_⟩
    obtain ⟨k, rfl, _⟩ := fuel (show K < k by omega)
    simp only [terracelaw20_BucketFull.l0]
    rw [if_pos (by omega)]
    refine bs (fill_f n t p rate (by unfold R64; omega) (by unfold R64; omega)) ?_
    rw [show addv t rate = t + rate by unfold addv; rw [if_neg (by omega)]]
    exact hK k (by omega)
theorem BucketFull : terracelaw20_BucketFull.Pure := by
  intro rate n m h0 h1 h2
  have r0 := wf_u64 h0
  have r1 := wf_i64 h1
  have r2 := wf_i64 h2
  have key : ∀ b, b = true → terracelaw20_BucketFull.j0 1000 rate n m b = some true := by
    rintro b rfl
    rw [show (1000 : Nat) = 999 + 1 from rfl]
    simp only [terracelaw20_BucketFull.j0]
    rw [if_pos trivial]
    exact bs (awake20_k (by omega)) rfl
  have e : fix_Of.f 2000 = some (2000 * 4294967296) := of_f 2000 (by omega) (by omega)
  by_cases hall : 1 ≤ n ∧ n ≤ 320 ∧ 0 ≤ m ∧ m ≤ 200 ∧ rate ≤ 2000 * 4294967296
  rotate_left
  · refine ⟨1000, ?_⟩
    unfold terracelaw20_BucketFull.f
    by_cases c1 : n < 1
    · rw [if_pos c1]; exact key _ rfl
    rw [if_neg c1]
    by_cases c2 : n > 320
    · rw [if_pos c2]; exact key _ rfl
    rw [if_neg c2]
    by_cases c3 : m < 0
    · rw [if_pos c3]; exact key _ rfl
    rw [if_neg c3]
    by_cases c4 : m > 200
    · rw [if_pos c4]; exact key _ rfl
    rw [if_neg c4]
    refine bs e ?_
    exact key _ (by simp; omega)
  obtain ⟨K, hK⟩ := full_out rate n m (by omega) (by omega) (by omega) m.toNat 0 0 0 (by omega) (by omega) (by omega) (by omega) (by omega) (by omega)
  refine ⟨K + 1 + 1, ?_⟩
  unfold terracelaw20_BucketFull.f
  rw [if_neg (by omega), if_neg (by omega), if_neg (by omega), if_neg (by omega)]
  refine bs e ?_
  simp only [terracelaw20_BucketFull.j0]
  rw [if_neg (by simp; omega), if_pos (by unfold bucket_New.ok; rw [new_ok (by omega)]; rfl)]
  refine bs (new_ok (by omega)) ?_
  rw [if_pos rfl]
  simp only [terracelaw20_BucketFull.j1]
  rw [if_neg (by simp)]
  exact hK _ (by omega)

end Go.Proofs.Ytkaglddebpmcmaa.Pure
