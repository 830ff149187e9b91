/- Proved: in any ticks that follow one another no more bytes are spent than their rates, added, and one greatest packet (for every input of bulk at most 1048576 that the statement's guards let in; the Go function returns true and leaves its arguments as they were). -/
import Derived.Test.YtkaglddebpmcmaaPBucketWindowsx3
set_option linter.unusedVariables false
set_option linter.unusedSimpArgs false
namespace Go.Proofs.Ytkaglddebpmcmaa.Pure
open Go.RowKit Go.Proofs.Ytkaglddebpmcmaa.PBucketWindows Go.Proofs.YtkaglddebpmcmaaW.PrintWords Go.Proofs.YtkaglddebpmcmaaW.PrintLast Go.Proofs.YtkaglddebpmcmaaW.PrintMore

theorem wf_u8 {a : Int} (h : (Lit.int .u8 a).wf = true) : 0 ≤ a ∧ a ≤ 255 := by
  simpa [Lit.wf, IntKind.min, IntKind.max, IntKind.signed, IntKind.bits] using h
theorem wf_u16 {a : Int} (h : (Lit.int .u16 a).wf = true) : 0 ≤ a ∧ a ≤ 65535 := by
  simpa [Lit.wf, IntKind.min, IntKind.max, IntKind.signed, IntKind.bits] using h
theorem wf_u32 {a : Int} (h : (Lit.int .u32 a).wf = true) : 0 ≤ a ∧ a ≤ 4294967295 := by
  simpa [Lit.wf, IntKind.min, IntKind.max, IntKind.signed, IntKind.bits] using h
theorem wf_u64 {a : Int} (h : (Lit.int .u64 a).wf = true) : 0 ≤ a ∧ a ≤ 18446744073709551615 := by
  simpa [Lit.wf, IntKind.min, IntKind.max, IntKind.signed, IntKind.bits] using h
theorem wf_i64 {a : Int} (h : (Lit.int .i64 a).wf = true) : -9223372036854775808 ≤ a ∧ a ≤ 9223372036854775807 := by
  simpa [Lit.wf, IntKind.min, IntKind.max, IntKind.signed, IntKind.bits] using h
theorem w64 {n : Int} (h : -9223372036854775808 ≤ n) (h' : n ≤ 9223372036854775807) : wrap64 n = n := by
  unfold wrap64; omega
theorem fuel {k n : Nat} (h : n < k) : ∃ m, k = m + 1 ∧ n ≤ m := ⟨k - 1, by omega, by omega⟩
theorem u64 {n : Int} (h : 0 ≤ n) (h' : n ≤ 18446744073709551615) : IntKind.u64.wrap n = n := by
  simp only [IntKind.wrap, IntKind.bits, IntKind.signed]; simp; omega
theorem wu (n : Int) : IntKind.u64.wrap n = n % 18446744073709551616 := by
  simp [IntKind.wrap, IntKind.bits, IntKind.signed]
theorem wraps_u64 (n : Int) (h0 : 0 ≤ n) (h1 : n < 2 ^ 64) : IntKind.u64.wrap n = n := by rw [wu]; omega
theorem and32 (x : Int) (h0 : 0 ≤ x) (h1 : x < 18446744073709551616) : Go.bits .and .u64 x 4294967295 = x % 4294967296 :=
  bits_mask .u64 64 (by decide) wraps_u64 32 (by decide) x h0 h1
theorem or_join (i : Nat) (x y : Int) (h0 : 0 ≤ x) (h1 : x % 2 ^ i = 0) (h2 : x < 18446744073709551616) (h3 : 0 ≤ y) (h4 : y < 2 ^ i) (h5 : y < 18446744073709551616) : Go.bits .or .u64 x y = x + y :=
  bits_join .u64 64 (by decide) wraps_u64 i x y h0 h1 h2 h3 h4 h5
theorem shl_u (x y : Int) (h0 : 0 ≤ y) (h1 : y ≤ 64) : shl .u64 x y = (x * 2 ^ y.toNat) % 18446744073709551616 := by
  unfold shl; rw [wu, show min y.toNat (IntKind.bits .u64) = y.toNat from Nat.min_eq_left (by simp [IntKind.bits]; omega)]
theorem shr_u (x y : Int) (h0 : 0 ≤ y) (h1 : y ≤ 64) : shr .u64 x y = x / 2 ^ y.toNat := by
  unfold shr; rw [show min y.toNat (IntKind.bits .u64) = y.toNat from Nat.min_eq_left (by simp [IntKind.bits]; omega)]
/-- one call behind another (no unfolding: the kernel need not look into what is called) -/
theorem bs {α β : Type} {x : Option α} {f : α → Option β} {a : α} {r : Option β} (h : x = some a) (h2 : f a = r) : x.bind f = r := by
  subst h; exact h2
def addv (a b : Int) : Int := if a + b > 18446744073709551615 then 18446744073709551615 else a + b
theorem add_f (a b : Int) (ha : 0 ≤ a ∧ a ≤ 18446744073709551615) (hb : 0 ≤ b ∧ b ≤ 18446744073709551615) : fix_F_Add.f a b = some (addv a b) := by
  unfold fix_F_Add.f addv addC addS
  by_cases h : a + b > 18446744073709551615
  · rw [if_neg (by omega), if_pos h]
  · rw [if_pos (by omega), if_neg h]; congr 1; omega
theorem addv_range (a b : Int) (ha : 0 ≤ a ∧ a ≤ 18446744073709551615) (hb : 0 ≤ b ∧ b ≤ 18446744073709551615) : 0 ≤ addv a b ∧ addv a b ≤ 18446744073709551615 := by
  unfold addv; split <;> omega
theorem awake20_k {k : Nat} (hk : 100 ≤ k) : terracelaw20_awake.f k = some true :=
  at_rounds (g := fun k => terracelaw20_awake.f k) (fun k => terracelaw20_awake.mono k) hk (by decide +kernel)
def R64 (x : Int) : Prop := 0 ≤ x ∧ x ≤ 18446744073709551615
theorem of_f (a : Int) (h0 : 0 ≤ a) (h1 : a ≤ 4294967295) : fix_Of.f a = some (a * 4294967296) := by
  unfold fix_Of.f; rw [u64 h0 (by omega), u64 (by omega) (by omega)]
def can (s t n : Int) : Prop := 1 ≤ n ∧ n ≤ s ∧ n * 4294967296 ≤ t
instance (s t n : Int) : Decidable (can s t n) := by unfold can; infer_instance
theorem fill_f (s t p x : Int) (ht : R64 t) (hx : R64 x) : bucket_Bucket_Fill.f s t p x = some (s, addv t x, p) := by
  unfold bucket_Bucket_Fill.f
  exact bs (add_f t x ht hx) rfl
theorem can_f (s t p n : Int) (hs : 1 ≤ s ∧ s ≤ 320) : bucket_Bucket_Can.f s t p n = some (decide (can s t n), s, t, p) := by
  unfold bucket_Bucket_Can.f
  by_cases h1 : n ≥ 1
  · rw [if_pos h1]
    by_cases h2 : n ≤ s
    · rw [if_pos h2, show n % 4294967296 = n by omega]
      refine bs (of_f n (by omega) (by omega)) ?_
      rw [show decide (t ≥ n * 4294967296) = decide (can s t n) from decide_eq_decide.mpr (by unfold can; omega)]
    · rw [if_neg h2, decide_eq_false (fun h : can s t n => by unfold can at h; omega)]
  · rw [if_neg h1, decide_eq_false (fun h : can s t n => by unfold can at h; omega)]
theorem spend_f (s t p n : Int) (hs : 1 ≤ s ∧ s ≤ 320) (ht : R64 t) : bucket_Bucket_Spend.f s t p n = some (if can s t n then (true, s, t - n * 4294967296, wrap64 (p + n)) else (false, s, t, p)) := by
  unfold bucket_Bucket_Spend.f
  refine bs (can_f s t p n hs) ?_
  by_cases h : can s t n
  · rw [if_pos (by simpa using h), if_pos h]
    unfold can R64 at *
    rw [show n % 4294967296 = n by omega]
    refine bs (of_f n (by omega) (by omega)) ?_
    have e : fix_F_Sub.f t (n * 4294967296) = some (t - n * 4294967296) := by
      unfold fix_F_Sub.f; rw [if_neg (by omega), u64 (by omega) (by omega)]
    exact bs e rfl
  · rw [if_neg (by simpa using h), if_neg h]
theorem end_f (s t p : Int) (hs : 1 ≤ s ∧ s ≤ 320) : bucket_Bucket_End.f s t p = some (s, mn t (s * 4294967296), p) := by
  unfold bucket_Bucket_End.f
  rw [show s % 4294967296 = s by omega]
  exact bs (of_f s (by omega) (by omega)) rfl
theorem new_ok {a : Int} (h : 1 ≤ a ∧ a ≤ 320) : bucket_New.f a = some (a, 0, 0, 0) := by
  unfold bucket_New.f; rw [if_neg (by omega), if_neg (by omega)]
theorem new_no {a : Int} (h : ¬(1 ≤ a ∧ a ≤ 320)) : bucket_New.f a = none := by
  unfold bucket_New.f
  by_cases h1 : a < 1
  · rw [if_pos h1]
  · rw [if_neg h1, if_pos (by omega)]
theorem new_err {a : Int} (h : ¬(1 ≤ a ∧ a ≤ 320)) : bucket_New_no.f a = some 11 := by
  unfold bucket_New_no.f
  by_cases h1 : a < 1
  · rw [if_pos h1]
  · rw [if_neg h1, if_pos (by omega)]
theorem R64_add {x y : Int} (hx : R64 x) (hy : R64 y) : R64 (addv x y) := addv_range x y hx hy
theorem R64_end {t s : Int} (ht : R64 t) (hs : 1 ≤ s ∧ s ≤ 320) : R64 (mn t (s * 4294967296)) := by unfold mn R64 at *; split <;> omega
theorem mul64_range (a b : Int) (ha : 0 ≤ a ∧ a ≤ 18446744073709551615) (hb : 0 ≤ b ∧ b ≤ 18446744073709551615) : 0 ≤ a * b ∧ a * b ≤ 340282366920938463426481119284349108225 := by
  refine ⟨Int.mul_nonneg ha.1 hb.1, ?_⟩
  have := Int.mul_le_mul ha.2 hb.2 hb.1 (by omega : (0 : Int) ≤ 18446744073709551615)
  omega
theorem shifted_f (p : Int) (h0 : 0 ≤ p) (h1 : p ≤ 340282366920938463426481119284349108225) : fix_shifted.f (p / 18446744073709551616) (p % 18446744073709551616) = some (if p / 79228162514264337593543950336 = 0 then p / 4294967296 else 18446744073709551615) := by
  unfold fix_shifted.f
  have e : p / 18446744073709551616 / 4294967296 = p / 79228162514264337593543950336 := by omega
  rw [e]
  by_cases h : p / 79228162514264337593543950336 = 0
  · rw [if_pos h, if_pos h, wu, or_join 32 _ _ (by omega) (by omega) (by omega) (by omega) (by omega) (by omega)]
    congr 1; omega
  · rw [if_neg h, if_neg h]
theorem mul64_f (a b : Int) (ha : 0 ≤ a ∧ a ≤ 18446744073709551615) (hb : 0 ≤ b ∧ b ≤ 18446744073709551615) : bits_Mul64.f a b = some (a * b / 18446744073709551616, a * b % 18446744073709551616) := by
  unfold bits_Mul64.f; rw [if_pos ⟨ha.1, ha.2, hb.1, hb.2⟩]
theorem times_f (a : Int) (ha : R64 a) : fix_F_Times.f a 1 = some (a / 4294967296) := by
  unfold fix_F_Times.f
  unfold R64 at ha
  refine bs (mul64_f a 1 ha (by omega)) ?_
  have := shifted_f (a * 1) (by omega) (by omega)
  refine bs this ?_
  rw [if_pos (by omega), Int.mul_one]
theorem rd_u64 {l : List Int} (h : ∀ x ∈ l, (Lit.int .u64 x).wf = true) (i : Int) (h0 : 0 ≤ i) (h1 : i < l.length) : R64 (rd l i) := by
  unfold rd
  rw [List.getD_eq_getElem?_getD, List.getElem?_eq_getElem (by omega), Option.getD_some]
  exact wf_u64 (h _ (List.getElem_mem _))
theorem drop_rd (l : List Int) (i : Int) (h0 : 0 ≤ i) (h1 : i < l.length) : l.drop i.toNat = rd l i :: l.drop (i + 1).toNat := by
  rw [List.drop_eq_getElem_cons (by omega), show (i + 1).toNat = i.toNat + 1 by omega]
  unfold rd
  rw [List.getD_eq_getElem?_getD, List.getElem?_eq_getElem (by omega), Option.getD_some]
theorem most_l (l : List Int) (h : ∀ x ∈ l, (Lit.int .u64 x).wf = true) (hl : l.length ≤ maxLen) (hm : (l.length : Int) ≤ 9223372036854775806) (d : Nat) : ∀ (k : Nat) (x i : Int), R64 x → 0 ≤ i → i + d = l.length → d < k →
    R64 ((l.drop i.toNat).foldl addv x) ∧ bucket_Most.l0 k x l (l.length : Int) i = some ((l.drop i.toNat).foldl addv x / 4294967296) := by
  induction d with
  | zero =>
    intro k x i hx h0 h1 hk
    obtain ⟨k, rfl, _⟩ := fuel hk
    simp only [bucket_Most.l0]
    rw [List.drop_of_length_le (by omega), List.foldl_nil]
    refine ⟨hx, ?_⟩
    rw [if_neg (by omega)]
    exact bs (times_f x hx) rfl
  | succ d ih =>
    intro k x i hx h0 h1 hk
    obtain ⟨k, rfl, _⟩ := fuel hk
    simp only [bucket_Most.l0]
    have hr := rd_u64 h i h0 (by omega)
    rw [if_pos (by omega), if_pos h0, if_pos (by omega), drop_rd l i h0 (by omega), List.foldl_cons, w64 (n := i + 1) (by omega) (by omega)]
    obtain ⟨h2, h3⟩ := ih k (addv x (rd l i)) (i + 1) (R64_add hx hr) (by omega) (by omega) (by omega)
    refine ⟨h2, ?_⟩
    refine bs (add_f x _ hx hr) ?_
    exact h3
theorem most_f (l : List Int) (h : ∀ x ∈ l, (Lit.int .u64 x).wf = true) (hl : l.length ≤ maxLen) (hm : (l.length : Int) ≤ 9223372036854775806) (s : Int) (hs : 0 ≤ s ∧ s ≤ 1048576) {k : Nat} (hk : l.length < k) :
    bucket_Most.f k l s = some (l.foldl addv (s * 4294967296) / 4294967296) := by
  unfold bucket_Most.f
  rw [show mx s 0 = s by unfold mx; split <;> omega, show s % 4294967296 = s by omega]
  refine bs (of_f s (by omega) (by omega)) ?_
  have := (most_l l h hl hm l.length k (s * 4294967296) 0 (by unfold R64; omega) (by omega) (by omega) hk).2
  simpa using this
theorem rd33_ok {l : List S33} (h : ∀ y_ ∈ l, okS33 y_) (i : Int) (h0 : 0 ≤ i) (h1 : i < l.length) : okS33 (rd_T33 l i) := by
  unfold rd_T33
  rw [List.getD_eq_getElem?_getD, List.getElem?_eq_getElem (by omega), Option.getD_some]
  exact h _ (List.getElem_mem _)
theorem ml {n : Nat} (h : n ≤ maxLen) : (n : Int) ≤ 9223372036854775807 := by unfold maxLen at h; omega
theorem small_some (l : List S33) (hl : l.length ≤ maxLen) (d : Nat) : ∀ (k : Nat) (n i : Int), 0 ≤ i → i + d = l.length → d < k → ∃ b, terracelaw20_small.l0 k n l (l.length : Int) i = some b := by
  have := ml hl
  induction d with
  | zero =>
    intro k n i h0 h1 hk
    obtain ⟨k, rfl, hk⟩ := fuel hk
    simp only [terracelaw20_small.l0]
    rw [if_neg (by omega)]; exact ⟨_, rfl⟩
  | succ d ih =>
    intro k n i h0 h1 hk
    obtain ⟨k, rfl, hk⟩ := fuel hk
    simp only [terracelaw20_small.l0]
    rw [if_pos (by omega), if_pos h0, if_pos (by omega), w64 (n := i + 1) (by omega) (by omega)]
    exact ih k _ (i + 1) (by omega) (by omega) (by omega)
/-- small's answer is one, whatever the rounds -/
theorem small_one (l : List S33) (hl : l.length ≤ maxLen) : ∃ b, ∀ k, l.length < k → terracelaw20_small.f k l = some b := by
  unfold terracelaw20_small.f
  obtain ⟨b, hb⟩ := small_some l hl l.length (l.length + 1) l.length 0 (by omega) (by omega) (by omega)
  exact ⟨b, fun k hk => at_rounds (g := fun k => terracelaw20_small.f k l) (fun k => terracelaw20_small.mono l k) (show l.length + 1 ≤ k by omega) hb⟩
/-- so many places, and ticks, in all -/
def lens : List S33 → Nat
  | [] => 0
  | x :: l => x.f1.length + 1 + lens l
theorem lens_drop (l : List S33) (i : Int) (h0 : 0 ≤ i) (h1 : i < l.length) : lens (l.drop i.toNat) = (rd_T33 l i).f1.length + 1 + lens (l.drop (i + 1).toNat) := by
  rw [List.drop_eq_getElem_cons (by omega), show (i + 1).toNat = i.toNat + 1 by omega]
  unfold rd_T33
  rw [List.getD_eq_getElem?_getD, List.getElem?_eq_getElem (by omega), Option.getD_some]
  rfl
theorem lens_take (l : List S33) : ∀ n, lens (l.take n) ≤ lens l := by
  induction l with
  | nil => intro n; simp [lens]
  | cons x l ih =>
    intro n
    cases n with
    | zero => simp [lens]
    | succ n => have := ih n; simp only [List.take_succ_cons, lens]; omega
theorem lens_length (l : List S33) : l.length ≤ lens l := by
  induction l with
  | nil => simp [lens]
  | cons x l ih => simp only [List.length_cons, lens]; omega
/-- what was spent since, and what there is, is at most what came -/
def winv (c t a b : Int) : Prop := 0 ≤ b ∧ b ≤ c ∧ (a = 18446744073709551615 ∨ (c - b) * 4294967296 + t ≤ a)
theorem win_in (s : Int) (hs : 1 ≤ s ∧ s ≤ 320) (frm upt n i : Int) (L : List S33) (z : List Int) (hz : z.length ≤ maxLen) (R : Nat) (b a : Int) (q : List Int)
    (hnext : ∀ (t c : Int), R64 t → t ≤ s * 4294967296 → 0 ≤ c → c + 320 * R ≤ 335544320 → (frm ≤ i → winv c t a b) → ∃ K, ∀ k, K ≤ k → terracelaw20_BucketWindows.l0 k s frm upt b q L n (wrap64 (i + 1)) s t c = some true) (d : Nat) :
    ∀ (t c j : Int), R64 t → 0 ≤ c → c + 320 * d + 320 * R ≤ 335544320 → (frm ≤ i → winv c t a b) → 0 ≤ j → j + d = z.length → ∃ K, ∀ k, K ≤ k → terracelaw20_BucketWindows.l1 k s frm upt b q L n i z (z.length : Int) j s t c = some true := by
  have hm := ml hz
  induction d with
  | zero =>
    intro t c j ht hc hR hi h0 h1
    obtain ⟨K, hK⟩ := hnext (mn t (s * 4294967296)) c (R64_end ht hs) (by unfold mn; split <;> omega) hc (by omega) (fun h => by
      have := hi h
      unfold winv at *
      have : mn t (s * 4294967296) ≤ t := by unfold mn; split <;> omega
      omega)
    refine ⟨K + 1, fun k hk => ?_⟩
    obtain ⟨k, rfl, _⟩ := fuel (show K < k by omega)
    simp only [terracelaw20_BucketWindows.l1]
    rw [if_neg (by omega)]
    refine bs (end_f s t c hs) ?_
    exact hK k (by omega)
  | succ d ih =>
    intro t c j ht hc hR hi h0 h1
    by_cases hcan : can s t (rd z j)
    · obtain ⟨K, hK⟩ := ih (t - rd z j * 4294967296) (c + rd z j) (j + 1) (by unfold can R64 at *; omega) (by unfold can at *; omega) (by unfold can at *; omega)
        (fun h => by have := hi h; unfold winv can at *; omega) (by omega) (by omega)
      refine ⟨K + 1, fun k hk => ?_⟩
      obtain ⟨k, rfl, _⟩ := fuel (show K < k by omega)
      simp only [terracelaw20_BucketWindows.l1]
      rw [if_pos (by omega), if_pos h0, if_pos (by omega)]
      refine bs (spend_f s t c _ hs ht) ?_
      rw [if_pos hcan, w64 (n := j + 1) (by omega) (by omega), w64 (n := c + rd z j) (by unfold can at hcan; omega) (by unfold can at hcan; omega)]
      exact hK k (by omega)
    · obtain ⟨K, hK⟩ := ih t c (j + 1) ht hc (by omega) hi (by omega) (by omega)
      refine ⟨K + 1, fun k hk => ?_⟩
      obtain ⟨k, rfl, _⟩ := fuel (show K < k by omega)
      simp only [terracelaw20_BucketWindows.l1]
      rw [if_pos (by omega), if_pos h0, if_pos (by omega)]
      refine bs (spend_f s t c _ hs ht) ?_
      rw [if_neg hcan, w64 (n := j + 1) (by omega) (by omega)]
      exact hK k (by omega)
theorem foldl_R64 (q : List Int) (h : ∀ x ∈ q, (Lit.int .u64 x).wf = true) : ∀ a, R64 a → R64 (q.foldl addv a) := by
  induction q with
  | nil => intro a ha; exact ha
  | cons x q ih => intro a ha; exact ih (fun y hy => h y (List.mem_cons_of_mem _ hy)) _ (R64_add ha (wf_u64 (h x (List.mem_cons_self))))
theorem win_out (s : Int) (hs : 1 ≤ s ∧ s ≤ 320) (frm upt : Int) (L : List S33) (hL : L.length ≤ 1048576) (hok : ∀ y_ ∈ L, okS33 y_) (hf : 0 ≤ frm ∧ frm ≤ upt) (hto : upt = L.length) (d : Nat) :
    ∀ (t c i b : Int) (q : List Int), R64 t → t ≤ s * 4294967296 → 0 ≤ c → c + 320 * lens (L.drop i.toNat) ≤ 335544320 → 0 ≤ i → i + d = L.length → (q.length : Int) ≤ i → (∀ x ∈ q, (Lit.int .u64 x).wf = true) → (i ≤ frm → q = []) →
      (frm < i → winv c t (q.foldl addv (s * 4294967296)) b) → ∃ K, ∀ k, K ≤ k → terracelaw20_BucketWindows.l0 k s frm upt b q L (L.length : Int) i s t c = some true := by
  induction d with
  | zero =>
    intro t c i b q ht hts hc hR h0 h1 hq hw he hi
    refine ⟨q.length + 300, fun k hk => ?_⟩
    obtain ⟨k, rfl, _⟩ := fuel (show q.length + 299 < k by omega)
    simp only [terracelaw20_BucketWindows.l0]
    rw [if_neg (by omega)]
    by_cases hft : frm = upt
    · rw [if_pos hft]; exact bs (awake20_k (by omega)) rfl
    · rw [if_neg hft]
      refine bs (rfl : bucket_Bucket_Spent.f s t c = _) ?_
      refine bs (most_f q hw (by unfold maxLen; omega) (by omega) s (by omega) (by omega)) ?_
      have ha := foldl_R64 q hw (s * 4294967296) (by unfold R64; omega)
      have hv := hi (by omega)
      unfold winv at hv
      unfold R64 at ht ha
      dsimp only
      rw [w64 (n := c - b) (by omega) (by omega), u64 (n := c - b) (by omega) (by omega), if_pos (by omega)]
      exact bs (awake20_k (by omega)) rfl
  | succ d ih =>
    intro t c i b q ht hts hc hR h0 h1 hq hw he hi
    have ho := rd33_ok hok i h0 (by omega)
    have hx : R64 (rd_T33 L i).f0 := wf_u64 ho.1
    rw [lens_drop L i h0 (by omega)] at hR
    have step : ∀ (b : Int) (q : List Int), (q.length : Int) ≤ i + 1 → (∀ x ∈ q, (Lit.int .u64 x).wf = true) → (i + 1 ≤ frm → q = []) → (frm ≤ i → winv c (addv t (rd_T33 L i).f0) (q.foldl addv (s * 4294967296)) b) →
        ∃ K, ∀ k, K ≤ k → terracelaw20_BucketWindows.j4 k s frm upt b q L (L.length : Int) i s t c (rd_T33 L i).f0 (rd_T33 L i).f1 = some true := by
      intro b q hq hw he hi
      obtain ⟨K, hK⟩ := win_in s hs frm upt (L.length : Int) i L (rd_T33 L i).f1 ho.2.1 (lens (L.drop (i + 1).toNat)) b (q.foldl addv (s * 4294967296)) q
        (fun t c ht hts hc hR hi => by
          rw [w64 (n := i + 1) (by omega) (by omega)]
          exact ih t c (i + 1) b q ht hts hc hR (by omega) (by omega) hq hw he (fun h => hi (by omega)))
        (rd_T33 L i).f1.length (addv t (rd_T33 L i).f0) c 0 (R64_add ht hx) hc (by omega) hi (by omega) (by omega)
      refine ⟨K + 1, fun k hk => ?_⟩
      obtain ⟨k, rfl, _⟩ := fuel (show K < k by omega)
      simp only [terracelaw20_BucketWindows.j4]
      refine bs (fill_f s t c _ ht hx) ?_
      exact hK k (by omega)
    have grow : ∀ (b : Int) (q : List Int), (q.length : Int) ≤ i → (∀ x ∈ q, (Lit.int .u64 x).wf = true) → (i < frm → q = []) → (frm ≤ i → winv c t (q.foldl addv (s * 4294967296)) b) →
        ∃ K, ∀ k, K ≤ k → terracelaw20_BucketWindows.j3 k s frm upt b q i L (L.length : Int) i s t c (rd_T33 L i).f0 (rd_T33 L i).f1 = some true := by
      intro b q hq hw he hi
      by_cases hge : i ≥ frm
      · obtain ⟨K, hK⟩ := step b (q ++ [(rd_T33 L i).f0]) (by simp; omega) (fun x hx => by
            rcases List.mem_append.1 hx with h | h
            · exact hw x h
            · rw [List.mem_singleton.1 h]; exact ho.1) (fun h => by omega) (fun h => by
            rw [List.foldl_append]
            have hv := hi h
            have ha := foldl_R64 q hw (s * 4294967296) (by unfold R64; omega)
            generalize q.foldl addv (s * 4294967296) = a at *
            generalize (rd_T33 L i).f0 = r at *
            show winv c (addv t r) (addv a r) b
            unfold winv R64 at *
            unfold addv
            split <;> split <;> omega)
        refine ⟨K + 1, fun k hk => ?_⟩
        obtain ⟨k, rfl, _⟩ := fuel (show K < k by omega)
        simp only [terracelaw20_BucketWindows.j3]
        rw [if_pos hge, if_pos (by omega)]
        exact hK k (by omega)
      · obtain ⟨K, hK⟩ := step b q (by omega) hw (fun h => he (by omega)) (fun h => by omega)
        refine ⟨K + 1, fun k hk => ?_⟩
        obtain ⟨k, rfl, _⟩ := fuel (show K < k by omega)
        simp only [terracelaw20_BucketWindows.j3]
        rw [if_neg hge]
        exact hK k (by omega)
    by_cases hif : i = frm
    · obtain ⟨K, hK⟩ := grow c q hq hw (fun h => by omega) (fun _ => by
        rw [he (by omega)]
        unfold winv; simp only [List.foldl_nil]; omega)
      refine ⟨K + 1, fun k hk => ?_⟩
      obtain ⟨k, rfl, _⟩ := fuel (show K < k by omega)
      simp only [terracelaw20_BucketWindows.l0]
      rw [if_pos (by omega), if_pos h0, if_pos (by omega), if_pos hif]
      refine bs (rfl : bucket_Bucket_Spent.f s t c = _) ?_
      exact hK k (by omega)
    · obtain ⟨K, hK⟩ := grow b q hq hw (fun h => he (by omega)) (fun h => hi (by omega))
      refine ⟨K + 1, fun k hk => ?_⟩
      obtain ⟨k, rfl, _⟩ := fuel (show K < k by omega)
      simp only [terracelaw20_BucketWindows.l0]
      rw [if_pos (by omega), if_pos h0, if_pos (by omega), if_neg hif]
      exact hK k (by omega)
/-- where what comes in is small (the statement of any size is false: see REPORT.md) -/
theorem BucketWindows (s : Int) (l : List S33) (frm upt : Int) (_h0 : (Lit.int .i64 s).wf = true) (hl : l.length ≤ maxLen) (hok : ∀ y_ ∈ l, okS33 y_) (_h2 : (Lit.int .i64 frm).wf = true) (_h3 : (Lit.int .i64 upt).wf = true) (hb : lens l ≤ 1048576) :
    ∃ k, terracelaw20_BucketWindows.f k s l frm upt = some true := by
  obtain ⟨sb, hsb⟩ := small_one l hl
  have hlen := lens_length l
  have key : ∀ k b, 1000 ≤ k → b = true → terracelaw20_BucketWindows.j0 k s l frm upt b = some true := by
    rintro k b hk rfl
    obtain ⟨k, rfl, _⟩ := fuel (show 999 < k by omega)
    simp only [terracelaw20_BucketWindows.j0]
    rw [if_pos trivial]
    exact bs (awake20_k (by omega)) rfl
  have skip : (∀ k, 1000 ≤ k → (if sb = true then (if s < 1 then (terracelaw20_BucketWindows.j0 k s l frm upt true) else (if s > 320 then (terracelaw20_BucketWindows.j0 k s l frm upt true) else (if frm < 0 then (terracelaw20_BucketWindows.j0 k s l frm upt true) else (if upt > (l.length : Int) then (terracelaw20_BucketWindows.j0 k s l frm upt true) else (terracelaw20_BucketWindows.j0 k s l frm upt (decide (frm > upt))))))) else (terracelaw20_BucketWindows.j0 k s l frm upt true)) = some true) → ∃ k, terracelaw20_BucketWindows.f k s l frm upt = some true := by
    intro h
    refine ⟨l.length + 1000, ?_⟩
    unfold terracelaw20_BucketWindows.f
    exact bs (hsb _ (by omega)) (h _ (by omega))
  by_cases c0 : sb = true
  case neg => exact skip (fun k hk => by rw [if_neg c0]; exact key k _ hk rfl)
  by_cases c1 : s < 1
  · exact skip (fun k hk => by rw [if_pos c0, if_pos c1]; exact key k _ hk rfl)
  by_cases c2 : s > 320
  · exact skip (fun k hk => by rw [if_pos c0, if_neg c1, if_pos c2]; exact key k _ hk rfl)
  by_cases c3 : frm < 0
  · exact skip (fun k hk => by rw [if_pos c0, if_neg c1, if_neg c2, if_pos c3]; exact key k _ hk rfl)
  by_cases c4 : upt > (l.length : Int)
  · exact skip (fun k hk => by rw [if_pos c0, if_neg c1, if_neg c2, if_neg c3, if_pos c4]; exact key k _ hk rfl)
  by_cases c5 : frm > upt
  · exact skip (fun k hk => by rw [if_pos c0, if_neg c1, if_neg c2, if_neg c3, if_neg c4]; exact key k _ hk (by simpa using c5))
  have ht := lens_take l upt.toNat
  obtain ⟨K, hK⟩ := win_out s (by omega) frm upt (l.take upt.toNat) (by rw [List.length_take]; omega) (fun y hy => hok y (List.mem_of_mem_take hy)) (by omega) (by rw [List.length_take]; omega) (l.take upt.toNat).length 0 0 0 0 []
    (by unfold R64; omega) (by omega) (by omega) (by simp; omega) (by omega) (by omega) (by simp) (fun x hx => by cases hx) (fun _ => rfl) (fun h => by omega)
  refine ⟨l.length + 1000 + K + 2, ?_⟩
  unfold terracelaw20_BucketWindows.f
  refine bs (hsb _ (by omega)) ?_
  rw [if_pos c0, if_neg c1, if_neg c2, if_neg c3, if_neg c4]
  rw [show l.length + 1000 + K + 2 = (l.length + 1000 + K + 1) + 1 from rfl]
  simp only [terracelaw20_BucketWindows.j0]
  rw [if_neg (by simpa using c5), show bucket_New.ok s = true by unfold bucket_New.ok; rw [new_ok (by omega)]; rfl, if_pos rfl]
  refine bs (new_ok (by omega)) ?_
  rw [if_pos rfl]
  rw [show l.length + 1000 + K + 1 = (l.length + 1000 + K) + 1 from rfl]
  simp only [terracelaw20_BucketWindows.j1]
  rw [if_neg (by decide), if_pos (by omega), if_pos (by omega)]
  refine bs rfl ?_
  exact hK _ (by omega)

end Go.Proofs.Ytkaglddebpmcmaa.Pure
