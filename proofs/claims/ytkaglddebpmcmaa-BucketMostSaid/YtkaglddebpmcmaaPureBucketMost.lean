/- Proved: how many bytes there may be is the rates, added, and the size (for every input that the statement's guards let in; the Go function returns true and leaves its arguments as they were). -/
import Derived.Test.YtkaglddebpmcmaaPBucketMostx3
import Derived.Test.YtkaglddebpmcmaaWSized
set_option linter.unusedVariables false
set_option linter.unusedSimpArgs false
namespace Go.Proofs.Ytkaglddebpmcmaa.PrintWords
open Go.ChangeShapes Go.WideShapes
theorem sized_ints {H : Type} {enc : TypeId × Value → H} {P : Program} {W : World} {base : Nat} {spare : Nat → Bool} {held : Bool} {t e : TypeId} {k : IntKind} {a : Option Addr} {len cap : Nat} {d : DataW H} {ps : List MemPlace} {ts : List TypeId} {ds : List (DataW H)} {j : Nat}
    (hsz : (DataW.weightsEach P ts ds).all (· ≤ reachBytes) = true) (ht : ts[j]? = some t) (hd : ds[j]? = some d) (hu : P.underlying t = some (.slice e)) (he : P.underlying e = some (.int k)) (hc : P.cellsOf e = 1) {B : Nat} (hB : P.bytesOf e = B)
    (h : DataW.Trod enc P W base spare held t (.slice a len cap) d ps) : len * B ≤ 140737488351232 :=
  Go.Proofs.YtkaglddebpmcmaaW.PrintWords.sized_ints hsz ht hd hu he hc hB h
end Go.Proofs.Ytkaglddebpmcmaa.PrintWords
namespace Go.Proofs.Ytkaglddebpmcmaa.Pure
open Go.RowKit Go.Proofs.Ytkaglddebpmcmaa.PBucketMost Go.Proofs.YtkaglddebpmcmaaW.PrintWords Go.Proofs.YtkaglddebpmcmaaW.PrintLast Go.Proofs.YtkaglddebpmcmaaW.PrintMore

theorem wf_u8 {a : Int} (h : (Lit.int .u8 a).wf = true) : 0 ≤ a ∧ a ≤ 255 := by
  simpa [Lit.wf, IntKind.min, IntKind.max, IntKind.signed, IntKind.bits] using h
theorem wf_u16 {a : Int} (h : (Lit.int .u16 a).wf = true) : 0 ≤ a ∧ a ≤ 65535 := by
  simpa [Lit.wf, IntKind.min, IntKind.max, IntKind.signed, IntKind.bits] using h
theorem wf_u32 {a : Int} (h : (Lit.int .u32 a).wf = true) : 0 ≤ a ∧ a ≤ 4294967295 := by
  simpa [Lit.wf, IntKind.min, IntKind.max, IntKind.signed, IntKind.bits] using h
theorem wf_u64 {a : Int} (h : (Lit.int .u64 a).wf = true) : 0 ≤ a ∧ a ≤ 18446744073709551615 := by
  simpa [Lit.wf, IntKind.min, IntKind.max, IntKind.signed, IntKind.bits] using h
theorem wf_i64 {a : Int} (h : (Lit.int .i64 a).wf = true) : -9223372036854775808 ≤ a ∧ a ≤ 9223372036854775807 := by
  simpa [Lit.wf, IntKind.min, IntKind.max, IntKind.signed, IntKind.bits] using h
theorem w64 {n : Int} (h : -9223372036854775808 ≤ n) (h' : n ≤ 9223372036854775807) : wrap64 n = n := by
  unfold wrap64; omega
theorem fuel {k n : Nat} (h : n < k) : ∃ m, k = m + 1 ∧ n ≤ m := ⟨k - 1, by omega, by omega⟩
theorem u64 {n : Int} (h : 0 ≤ n) (h' : n ≤ 18446744073709551615) : IntKind.u64.wrap n = n := by
  simp only [IntKind.wrap, IntKind.bits, IntKind.signed]; simp; omega
theorem wu (n : Int) : IntKind.u64.wrap n = n % 18446744073709551616 := by
  simp [IntKind.wrap, IntKind.bits, IntKind.signed]
theorem wraps_u64 (n : Int) (h0 : 0 ≤ n) (h1 : n < 2 ^ 64) : IntKind.u64.wrap n = n := by rw [wu]; omega
theorem and32 (x : Int) (h0 : 0 ≤ x) (h1 : x < 18446744073709551616) : Go.bits .and .u64 x 4294967295 = x % 4294967296 :=
  bits_mask .u64 64 (by decide) wraps_u64 32 (by decide) x h0 h1
theorem or_join (i : Nat) (x y : Int) (h0 : 0 ≤ x) (h1 : x % 2 ^ i = 0) (h2 : x < 18446744073709551616) (h3 : 0 ≤ y) (h4 : y < 2 ^ i) (h5 : y < 18446744073709551616) : Go.bits .or .u64 x y = x + y :=
  bits_join .u64 64 (by decide) wraps_u64 i x y h0 h1 h2 h3 h4 h5
theorem shl_u (x y : Int) (h0 : 0 ≤ y) (h1 : y ≤ 64) : shl .u64 x y = (x * 2 ^ y.toNat) % 18446744073709551616 := by
  unfold shl; rw [wu, show min y.toNat (IntKind.bits .u64) = y.toNat from Nat.min_eq_left (by simp [IntKind.bits]; omega)]
theorem shr_u (x y : Int) (h0 : 0 ≤ y) (h1 : y ≤ 64) : shr .u64 x y = x / 2 ^ y.toNat := by
  unfold shr; rw [show min y.toNat (IntKind.bits .u64) = y.toNat from Nat.min_eq_left (by simp [IntKind.bits]; omega)]
/-- one call behind another (no unfolding: the kernel need not look into what is called) -/
theorem bs {α β : Type} {x : Option α} {f : α → Option β} {a : α} {r : Option β} (h : x = some a) (h2 : f a = r) : x.bind f = r := by
  subst h; exact h2
def addv (a b : Int) : Int := if a + b > 18446744073709551615 then 18446744073709551615 else a + b
theorem add_f (a b : Int) (ha : 0 ≤ a ∧ a ≤ 18446744073709551615) (hb : 0 ≤ b ∧ b ≤ 18446744073709551615) : fix_F_Add.f a b = some (addv a b) := by
  unfold fix_F_Add.f addv addC addS
  by_cases h : a + b > 18446744073709551615
  · rw [if_neg (by omega), if_pos h]
  · rw [if_pos (by omega), if_neg h]; congr 1; omega
theorem addv_range (a b : Int) (ha : 0 ≤ a ∧ a ≤ 18446744073709551615) (hb : 0 ≤ b ∧ b ≤ 18446744073709551615) : 0 ≤ addv a b ∧ addv a b ≤ 18446744073709551615 := by
  unfold addv; split <;> omega
theorem awake20_k {k : Nat} (hk : 100 ≤ k) : terracelaw20_awake.f k = some true :=
  at_rounds (g := fun k => terracelaw20_awake.f k) (fun k => terracelaw20_awake.mono k) hk (by decide +kernel)
def R64 (x : Int) : Prop := 0 ≤ x ∧ x ≤ 18446744073709551615
theorem of_f (a : Int) (h0 : 0 ≤ a) (h1 : a ≤ 4294967295) : fix_Of.f a = some (a * 4294967296) := by
  unfold fix_Of.f; rw [u64 h0 (by omega), u64 (by omega) (by omega)]
def can (s t n : Int) : Prop := 1 ≤ n ∧ n ≤ s ∧ n * 4294967296 ≤ t
instance (s t n : Int) : Decidable (can s t n) := by unfold can; infer_instance
theorem fill_f (s t p x : Int) (ht : R64 t) (hx : R64 x) : bucket_Bucket_Fill.f s t p x = some (s, addv t x, p) := by
  unfold bucket_Bucket_Fill.f
  exact bs (add_f t x ht hx) rfl
theorem can_f (s t p n : Int) (hs : 1 ≤ s ∧ s ≤ 320) : bucket_Bucket_Can.f s t p n = some (decide (can s t n), s, t, p) := by
  unfold bucket_Bucket_Can.f
  by_cases h1 : n ≥ 1
  · rw [if_pos h1]
    by_cases h2 : n ≤ s
    · rw [if_pos h2, show n % 4294967296 = n by omega]
      refine bs (of_f n (by omega) (by omega)) ?_
      rw [show decide (t ≥ n * 4294967296) = decide (can s t n) from decide_eq_decide.mpr (by unfold can; omega)]
    · rw [if_neg h2, decide_eq_false (fun h : can s t n => by unfold can at h; omega)]
  · rw [if_neg h1, decide_eq_false (fun h : can s t n => by unfold can at h; omega)]
theorem spend_f (s t p n : Int) (hs : 1 ≤ s ∧ s ≤ 320) (ht : R64 t) : bucket_Bucket_Spend.f s t p n = some (if can s t n then (true, s, t - n * 4294967296, wrap64 (p + n)) else (false, s, t, p)) := by
  unfold bucket_Bucket_Spend.f
  refine bs (can_f s t p n hs) ?_
  by_cases h : can s t n
  · rw [if_pos (by simpa using h), if_pos h]
    unfold can R64 at *
    rw [show n % 4294967296 = n by omega]
    refine bs (of_f n (by omega) (by omega)) ?_
    have e : fix_F_Sub.f t (n * 4294967296) = some (t - n * 4294967296) := by
      unfold fix_F_Sub.f; rw [if_neg (by omega), u64 (by omega) (by omega)]
    exact bs e rfl
  · rw [if_neg (by simpa using h), if_neg h]
theorem end_f (s t p : Int) (hs : 1 ≤ s ∧ s ≤ 320) : bucket_Bucket_End.f s t p = some (s, mn t (s * 4294967296), p) := by
  unfold bucket_Bucket_End.f
  rw [show s % 4294967296 = s by omega]
  exact bs (of_f s (by omega) (by omega)) rfl
theorem new_ok {a : Int} (h : 1 ≤ a ∧ a ≤ 320) : bucket_New.f a = some (a, 0, 0, 0) := by
  unfold bucket_New.f; rw [if_neg (by omega), if_neg (by omega)]
theorem new_no {a : Int} (h : ¬(1 ≤ a ∧ a ≤ 320)) : bucket_New.f a = none := by
  unfold bucket_New.f
  by_cases h1 : a < 1
  · rw [if_pos h1]
  · rw [if_neg h1, if_pos (by omega)]
theorem new_err {a : Int} (h : ¬(1 ≤ a ∧ a ≤ 320)) : bucket_New_no.f a = some 11 := by
  unfold bucket_New_no.f
  by_cases h1 : a < 1
  · rw [if_pos h1]
  · rw [if_neg h1, if_pos (by omega)]
theorem R64_add {x y : Int} (hx : R64 x) (hy : R64 y) : R64 (addv x y) := addv_range x y hx hy
theorem R64_end {t s : Int} (ht : R64 t) (hs : 1 ≤ s ∧ s ≤ 320) : R64 (mn t (s * 4294967296)) := by unfold mn R64 at *; split <;> omega
theorem mul64_range (a b : Int) (ha : 0 ≤ a ∧ a ≤ 18446744073709551615) (hb : 0 ≤ b ∧ b ≤ 18446744073709551615) : 0 ≤ a * b ∧ a * b ≤ 340282366920938463426481119284349108225 := by
  refine ⟨Int.mul_nonneg ha.1 hb.1, ?_⟩
  have := Int.mul_le_mul ha.2 hb.2 hb.1 (by omega : (0 : Int) ≤ 18446744073709551615)
  omega
theorem shifted_f (p : Int) (h0 : 0 ≤ p) (h1 : p ≤ 340282366920938463426481119284349108225) : fix_shifted.f (p / 18446744073709551616) (p % 18446744073709551616) = some (if p / 79228162514264337593543950336 = 0 then p / 4294967296 else 18446744073709551615) := by
  unfold fix_shifted.f
  have e : p / 18446744073709551616 / 4294967296 = p / 79228162514264337593543950336 := by omega
  rw [e]
  by_cases h : p / 79228162514264337593543950336 = 0
  · rw [if_pos h, if_pos h, wu, or_join 32 _ _ (by omega) (by omega) (by omega) (by omega) (by omega) (by omega)]
    congr 1; omega
  · rw [if_neg h, if_neg h]
theorem mul64_f (a b : Int) (ha : 0 ≤ a ∧ a ≤ 18446744073709551615) (hb : 0 ≤ b ∧ b ≤ 18446744073709551615) : bits_Mul64.f a b = some (a * b / 18446744073709551616, a * b % 18446744073709551616) := by
  unfold bits_Mul64.f; rw [if_pos ⟨ha.1, ha.2, hb.1, hb.2⟩]
theorem times_f (a : Int) (ha : R64 a) : fix_F_Times.f a 1 = some (a / 4294967296) := by
  unfold fix_F_Times.f
  unfold R64 at ha
  refine bs (mul64_f a 1 ha (by omega)) ?_
  have := shifted_f (a * 1) (by omega) (by omega)
  refine bs this ?_
  rw [if_pos (by omega), Int.mul_one]
theorem rd_u64 {l : List Int} (h : ∀ x ∈ l, (Lit.int .u64 x).wf = true) (i : Int) (h0 : 0 ≤ i) (h1 : i < l.length) : R64 (rd l i) := by
  unfold rd
  rw [List.getD_eq_getElem?_getD, List.getElem?_eq_getElem (by omega), Option.getD_some]
  exact wf_u64 (h _ (List.getElem_mem _))
theorem drop_rd (l : List Int) (i : Int) (h0 : 0 ≤ i) (h1 : i < l.length) : l.drop i.toNat = rd l i :: l.drop (i + 1).toNat := by
  rw [List.drop_eq_getElem_cons (by omega), show (i + 1).toNat = i.toNat + 1 by omega]
  unfold rd
  rw [List.getD_eq_getElem?_getD, List.getElem?_eq_getElem (by omega), Option.getD_some]
theorem most_l (l : List Int) (h : ∀ x ∈ l, (Lit.int .u64 x).wf = true) (hl : l.length ≤ maxLen) (hm : (l.length : Int) ≤ 9223372036854775806) (d : Nat) : ∀ (k : Nat) (x i : Int), R64 x → 0 ≤ i → i + d = l.length → d < k →
    R64 ((l.drop i.toNat).foldl addv x) ∧ bucket_Most.l0 k x l (l.length : Int) i = some ((l.drop i.toNat).foldl addv x / 4294967296) := by
  induction d with
  | zero =>
    intro k x i hx h0 h1 hk
    obtain ⟨k, rfl, _⟩ := fuel hk
    simp only [bucket_Most.l0]
    rw [List.drop_of_length_le (by omega), List.foldl_nil]
    refine ⟨hx, ?_⟩
    rw [if_neg (by omega)]
    exact bs (times_f x hx) rfl
  | succ d ih =>
    intro k x i hx h0 h1 hk
    obtain ⟨k, rfl, _⟩ := fuel hk
    simp only [bucket_Most.l0]
    have hr := rd_u64 h i h0 (by omega)
    rw [if_pos (by omega), if_pos h0, if_pos (by omega), drop_rd l i h0 (by omega), List.foldl_cons, w64 (n := i + 1) (by omega) (by omega)]
    obtain ⟨h2, h3⟩ := ih k (addv x (rd l i)) (i + 1) (R64_add hx hr) (by omega) (by omega) (by omega)
    refine ⟨h2, ?_⟩
    refine bs (add_f x _ hx hr) ?_
    exact h3
theorem most_f (l : List Int) (h : ∀ x ∈ l, (Lit.int .u64 x).wf = true) (hl : l.length ≤ maxLen) (hm : (l.length : Int) ≤ 9223372036854775806) (s : Int) (hs : 0 ≤ s ∧ s ≤ 1048576) {k : Nat} (hk : l.length < k) :
    bucket_Most.f k l s = some (l.foldl addv (s * 4294967296) / 4294967296) := by
  unfold bucket_Most.f
  rw [show mx s 0 = s by unfold mx; split <;> omega, show s % 4294967296 = s by omega]
  refine bs (of_f s (by omega) (by omega)) ?_
  have := (most_l l h hl hm l.length k (s * 4294967296) 0 (by unfold R64; omega) (by omega) (by omega) hk).2
  simpa using this
theorem radd_f (a b : Int) (ha : R64 a) (hb : R64 b) : terraceref20_Add.f a b = some (addv a b) := by
  unfold terraceref20_Add.f addv R64 at *
  rw [u64 (by omega) (by omega)]
  by_cases h : a > 18446744073709551615 - b
  · rw [if_pos h, if_pos (by omega)]
  · rw [if_neg h, if_neg (by omega), u64 (by omega) (by omega)]
theorem law_l (l : List Int) (h : ∀ x ∈ l, (Lit.int .u64 x).wf = true) (hl : l.length ≤ 100) (s : Int) (hs : 0 ≤ s ∧ s ≤ 1048576) (d : Nat) : ∀ (k : Nat) (x i : Int), R64 x → 0 ≤ i → i + d = l.length → d + 300 < k →
    (l.drop i.toNat).foldl addv x = l.foldl addv (s * 4294967296) → terracelaw20_BucketMost.l0 k l s x l (l.length : Int) i = some true := by
  induction d with
  | zero =>
    intro k x i hx h0 h1 hk he
    obtain ⟨k, rfl, _⟩ := fuel hk
    simp only [terracelaw20_BucketMost.l0]
    rw [if_neg (by omega)]
    rw [List.drop_of_length_le (by omega), List.foldl_nil] at he
    refine bs (most_f l h (by unfold maxLen; omega) (by omega) s hs (by omega)) ?_
    rw [if_pos (by rw [he])]
    exact bs (awake20_k (by omega)) rfl
  | succ d ih =>
    intro k x i hx h0 h1 hk he
    obtain ⟨k, rfl, _⟩ := fuel hk
    simp only [terracelaw20_BucketMost.l0]
    have hr := rd_u64 h i h0 (by omega)
    rw [drop_rd l i h0 (by omega), List.foldl_cons] at he
    rw [if_pos (by omega), if_pos h0, if_pos (by omega), w64 (n := i + 1) (by omega) (by omega)]
    refine bs (radd_f x _ hx hr) ?_
    exact ih k _ (i + 1) (R64_add hx hr) (by omega) (by omega) (by omega) he
theorem BucketMost : terracelaw20_BucketMost.Pure := by
  intro l s hl _ h h1
  have r1 := wf_i64 h1
  have key : ∀ b, b = true → terracelaw20_BucketMost.j0 1000 l s b = some true := by
    rintro b rfl
    rw [show (1000 : Nat) = 999 + 1 from rfl]
    simp only [terracelaw20_BucketMost.j0]
    rw [if_pos trivial]
    exact bs (awake20_k (by omega)) rfl
  refine ⟨1000, ?_⟩
  unfold terracelaw20_BucketMost.f
  by_cases c1 : (l.length : Int) > 100
  · rw [if_pos c1]; exact key _ rfl
  rw [if_neg c1]
  by_cases c2 : s < 0
  · rw [if_pos c2]; exact key _ rfl
  rw [if_neg c2]
  by_cases c3 : s > 1048576
  · exact key _ (by simpa using c3)
  rw [show (1000 : Nat) = 999 + 1 from rfl]
  simp only [terracelaw20_BucketMost.j0]
  rw [if_neg (by simpa using c3), u64 (n := s) (by omega) (by omega), u64 (n := s * 4294967296) (by omega) (by omega)]
  exact law_l l h (by omega) s (by omega) l.length 999 _ 0 (by unfold R64; omega) (by omega) (by omega) (by omega) (by simp)

end Go.Proofs.Ytkaglddebpmcmaa.Pure
