/- Proved: products of any two numbers are rounded down, or the greatest one; so often a number is, too (for every input that the statement's guards let in; the Go function returns true and leaves its arguments as they were). -/
import Derived.Test.YtibihicmhakacaaPFixProductsx4
set_option linter.unusedVariables false
set_option linter.unusedSimpArgs false
namespace Go.Proofs.Ytibihicmhakacaa.Pure
open Go.RowKit Go.Proofs.Ytibihicmhakacaa.PFixProducts Go.Proofs.YtibihicmhakacaaW.PrintWords Go.Proofs.YtibihicmhakacaaW.PrintLast Go.Proofs.YtibihicmhakacaaW.PrintMore

theorem wf_u8 {a : Int} (h : (Lit.int .u8 a).wf = true) : 0 ≤ a ∧ a ≤ 255 := by
  simpa [Lit.wf, IntKind.min, IntKind.max, IntKind.signed, IntKind.bits] using h
theorem wf_u16 {a : Int} (h : (Lit.int .u16 a).wf = true) : 0 ≤ a ∧ a ≤ 65535 := by
  simpa [Lit.wf, IntKind.min, IntKind.max, IntKind.signed, IntKind.bits] using h
theorem wf_u32 {a : Int} (h : (Lit.int .u32 a).wf = true) : 0 ≤ a ∧ a ≤ 4294967295 := by
  simpa [Lit.wf, IntKind.min, IntKind.max, IntKind.signed, IntKind.bits] using h
theorem wf_u64 {a : Int} (h : (Lit.int .u64 a).wf = true) : 0 ≤ a ∧ a ≤ 18446744073709551615 := by
  simpa [Lit.wf, IntKind.min, IntKind.max, IntKind.signed, IntKind.bits] using h
theorem wf_i64 {a : Int} (h : (Lit.int .i64 a).wf = true) : -9223372036854775808 ≤ a ∧ a ≤ 9223372036854775807 := by
  simpa [Lit.wf, IntKind.min, IntKind.max, IntKind.signed, IntKind.bits] using h
theorem w64 {n : Int} (h : -9223372036854775808 ≤ n) (h' : n ≤ 9223372036854775807) : wrap64 n = n := by
  unfold wrap64; omega
theorem fuel {k n : Nat} (h : n < k) : ∃ m, k = m + 1 ∧ n ≤ m := ⟨k - 1, by omega, by omega⟩
theorem u64 {n : Int} (h : 0 ≤ n) (h' : n ≤ 18446744073709551615) : IntKind.u64.wrap n = n := by
  simp only [IntKind.wrap, IntKind.bits, IntKind.signed]; simp; omega
theorem wu (n : Int) : IntKind.u64.wrap n = n % 18446744073709551616 := by
  simp [IntKind.wrap, IntKind.bits, IntKind.signed]
theorem wraps_u64 (n : Int) (h0 : 0 ≤ n) (h1 : n < 2 ^ 64) : IntKind.u64.wrap n = n := by rw [wu]; omega
theorem and32 (x : Int) (h0 : 0 ≤ x) (h1 : x < 18446744073709551616) : Go.bits .and .u64 x 4294967295 = x % 4294967296 :=
  bits_mask .u64 64 (by decide) wraps_u64 32 (by decide) x h0 h1
theorem or_join (i : Nat) (x y : Int) (h0 : 0 ≤ x) (h1 : x % 2 ^ i = 0) (h2 : x < 18446744073709551616) (h3 : 0 ≤ y) (h4 : y < 2 ^ i) (h5 : y < 18446744073709551616) : Go.bits .or .u64 x y = x + y :=
  bits_join .u64 64 (by decide) wraps_u64 i x y h0 h1 h2 h3 h4 h5
theorem shl_u (x y : Int) (h0 : 0 ≤ y) (h1 : y ≤ 64) : shl .u64 x y = (x * 2 ^ y.toNat) % 18446744073709551616 := by
  unfold shl; rw [wu, show min y.toNat (IntKind.bits .u64) = y.toNat from Nat.min_eq_left (by simp [IntKind.bits]; omega)]
theorem shr_u (x y : Int) (h0 : 0 ≤ y) (h1 : y ≤ 64) : shr .u64 x y = x / 2 ^ y.toNat := by
  unfold shr; rw [show min y.toNat (IntKind.bits .u64) = y.toNat from Nat.min_eq_left (by simp [IntKind.bits]; omega)]
/-- one call behind another (no unfolding: the kernel need not look into what is called) -/
theorem bs {α β : Type} {x : Option α} {f : α → Option β} {a : α} {r : Option β} (h : x = some a) (h2 : f a = r) : x.bind f = r := by
  subst h; exact h2
def mulv (a b : Int) : Int := if a * b / 79228162514264337593543950336 = 0 then a * b / 4294967296 else 18446744073709551615
theorem mul64_range (a b : Int) (ha : 0 ≤ a ∧ a ≤ 18446744073709551615) (hb : 0 ≤ b ∧ b ≤ 18446744073709551615) : 0 ≤ a * b ∧ a * b ≤ 340282366920938463426481119284349108225 := by
  refine ⟨Int.mul_nonneg ha.1 hb.1, ?_⟩
  have := Int.mul_le_mul ha.2 hb.2 hb.1 (by omega : (0 : Int) ≤ 18446744073709551615)
  omega
theorem shifted_f (p : Int) (h0 : 0 ≤ p) (h1 : p ≤ 340282366920938463426481119284349108225) : fix_shifted.f (p / 18446744073709551616) (p % 18446744073709551616) = some (if p / 79228162514264337593543950336 = 0 then p / 4294967296 else 18446744073709551615) := by
  unfold fix_shifted.f
  have e : p / 18446744073709551616 / 4294967296 = p / 79228162514264337593543950336 := by omega
  rw [e]
  by_cases h : p / 79228162514264337593543950336 = 0
  · rw [if_pos h, if_pos h, wu, or_join 32 _ _ (by omega) (by omega) (by omega) (by omega) (by omega) (by omega)]
    congr 1; omega
  · rw [if_neg h, if_neg h]
theorem mul64_f (a b : Int) (ha : 0 ≤ a ∧ a ≤ 18446744073709551615) (hb : 0 ≤ b ∧ b ≤ 18446744073709551615) : bits_Mul64.f a b = some (a * b / 18446744073709551616, a * b % 18446744073709551616) := by
  unfold bits_Mul64.f; rw [if_pos ⟨ha.1, ha.2, hb.1, hb.2⟩]
theorem mul_f (a b : Int) (ha : 0 ≤ a ∧ a ≤ 18446744073709551615) (hb : 0 ≤ b ∧ b ≤ 18446744073709551615) : fix_F_Mul.f a b = some (mulv a b) := by
  unfold fix_F_Mul.f mulv
  have h := mul64_range a b ha hb
  rw [mul64_f a b ha hb]; simp only [Option.bind_some]
  rw [shifted_f _ h.1 h.2]; rfl
theorem mulv_range (a b : Int) (ha : 0 ≤ a ∧ a ≤ 18446744073709551615) (hb : 0 ≤ b ∧ b ≤ 18446744073709551615) : 0 ≤ mulv a b ∧ mulv a b ≤ 18446744073709551615 := by
  have h := mul64_range a b ha hb
  unfold mulv; split <;> omega
/-! digits of the base 2^16, the lowest first -/
def val : List Int → Int
  | [] => 0
  | d :: r => d + 65536 * val r
def Dig (l : List Int) : Prop := ∀ x ∈ l, 0 ≤ x ∧ x ≤ 65535
/-- no nought at the end: the number is as great as its length says -/
def Norm (l : List Int) : Prop := Dig l ∧ (l = [] ∨ 65536 ^ (l.length - 1) ≤ val l)
theorem val_append : ∀ a b : List Int, val (a ++ b) = val a + 65536 ^ a.length * val b
  | [], b => by simp [val]
  | d :: r, b => by
    rw [List.cons_append, val, val_append r b, val, List.length_cons, Int.pow_succ]; grind
theorem val_range : ∀ l : List Int, Dig l → 0 ≤ val l ∧ val l < 65536 ^ l.length
  | [], _ => by simp [val]
  | d :: r, h => by
    obtain ⟨h1, h2⟩ := val_range r (fun x hx => h x (List.mem_cons_of_mem _ hx))
    have := h d List.mem_cons_self
    rw [val, List.length_cons, Int.pow_succ]
    omega
theorem Dig.append {a b : List Int} (ha : Dig a) (hb : Dig b) : Dig (a ++ b) := fun x hx => by
  rcases List.mem_append.1 hx with h | h
  · exact ha x h
  · exact hb x h
theorem Dig.take {a : List Int} (ha : Dig a) (n : Nat) : Dig (a.take n) := fun x hx => ha x (List.mem_of_mem_take hx)
theorem Dig.one {d : Int} (h : 0 ≤ d ∧ d ≤ 65535) : Dig [d] := fun x hx => by
  have : x = d := by simpa using hx
  subst this; exact h
theorem Dig.nil : Dig [] := fun x hx => by cases hx
theorem pw_pos (n : Nat) : (0 : Int) < 65536 ^ n := Int.pow_pos (by omega)
theorem pw_le {m n : Nat} (h : m ≤ n) : (65536 : Int) ^ m ≤ 65536 ^ n := by
  obtain ⟨d, rfl⟩ := Nat.exists_eq_add_of_le h
  rw [Int.pow_add]
  have h1 := pw_pos m
  have h2 := pw_pos d
  have := Int.mul_le_mul_of_nonneg_left (show (1 : Int) ≤ 65536 ^ d by omega) (show (0 : Int) ≤ 65536 ^ m by omega)
  omega
/-- a number's digit, noughts behind its end -/
def dg (l : List Int) (i : Int) : Int := if i < (l.length : Int) then rd l i else 0
theorem dg_range {l : List Int} (h : Dig l) (i : Int) (h0 : 0 ≤ i) : 0 ≤ dg l i ∧ dg l i ≤ 65535 := by
  unfold dg
  split
  · unfold rd
    rw [List.getD_eq_getElem?_getD, List.getElem?_eq_getElem (by omega), Option.getD_some]
    exact h _ (List.getElem_mem _)
  · omega
theorem val_take (l : List Int) (i : Int) (h0 : 0 ≤ i) : val (l.take (i + 1).toNat) = val (l.take i.toNat) + 65536 ^ i.toNat * dg l i := by
  unfold dg
  rw [show (i + 1).toNat = i.toNat + 1 from by omega]
  by_cases h : i < (l.length : Int)
  · rw [if_pos h, List.take_succ_eq_append_getElem (by omega), val_append, List.length_take, Nat.min_eq_left (by omega)]
    unfold rd
    rw [List.getD_eq_getElem?_getD, List.getElem?_eq_getElem (by omega), Option.getD_some]
    simp [val]
  · rw [if_neg h, List.take_of_length_le (by omega), List.take_of_length_le (by omega)]; omega
theorem val_set : ∀ (l : List Int) (i : Nat) (v : Int), i < l.length → val (l.set i v) = val l + 65536 ^ i * (v - l.getD i 0)
  | [], i, v, h => by simp at h
  | d :: r, 0, v, _ => by simp [val]; omega
  | d :: r, i + 1, v, h => by
    rw [List.set_cons_succ, val, val_set r i v (by simpa using h), val, List.getD_cons_succ, Int.pow_succ]; grind
theorem Dig.set {l : List Int} (h : Dig l) (i : Nat) {v : Int} (hv : 0 ≤ v ∧ v ≤ 65535) : Dig (l.set i v) := fun x hx => by
  rcases List.mem_or_eq_of_mem_set hx with hm | rfl
  · exact h x hm
  · exact hv
theorem len_le {l : List Int} (h : Norm l) (n : Nat) (hv : val l < 65536 ^ n) : l.length ≤ n := by
  rcases h.2 with rfl | h2
  · simp
  · apply Nat.not_lt.mp
    intro hlt
    have := pw_le (show n ≤ l.length - 1 by omega)
    omega
/-! trim -/
theorem trim_l (l : List Int) (hd : Dig l) (hl : l.length ≤ 100000) (d : Nat) : ∀ (k : Nat) (i : Int), i = d → i ≤ l.length → d < k → val (l.take d) = val l → ∃ r, terraceref01_trim.l0 k l i = some r ∧ Norm r ∧ val r = val l ∧ r.length ≤ l.length := by
  induction d with
  | zero =>
    intro k i hi hle hk hv
    obtain ⟨k, rfl, hk⟩ := fuel hk
    subst hi
    simp only [terraceref01_trim.l0]
    rw [if_neg (by omega), if_pos (by omega), if_pos (by omega)]
    refine ⟨_, rfl, ⟨by simp; exact Dig.nil, .inl (by simp)⟩, by simpa using hv, by simp⟩
  | succ d ih =>
    intro k i hi hle hk hv
    obtain ⟨k, rfl, hk⟩ := fuel hk
    simp only [terraceref01_trim.l0]
    rw [if_pos (by omega), w64 (by omega) (by omega), if_pos (by omega), if_pos (by omega)]
    have e := val_take l (i - 1) (by omega)
    rw [show (i - 1 + 1).toNat = d + 1 from by omega, show (i - 1).toNat = d from by omega] at e
    unfold dg at e
    rw [if_pos (by omega)] at e
    have hg := dg_range hd (i - 1) (by omega)
    unfold dg at hg
    rw [if_pos (by omega)] at hg
    by_cases h : rd l (i - 1) = 0
    · rw [if_pos h]
      rw [h] at e
      exact ih k (i - 1) (by omega) (by omega) (by omega) (by omega)
    · rw [if_neg h, if_pos (by omega), if_pos (by omega)]
      have hi2 : (i : Int).toNat = d + 1 := by omega
      refine ⟨_, rfl, ⟨hd.take _, .inr ?_⟩, by rw [hi2]; exact hv, by simp; omega⟩
      rw [hi2, List.length_take, Nat.min_eq_left (by omega), Nat.add_sub_cancel, e]
      have h1 := (val_range _ (hd.take d)).1
      have h2 := Int.mul_le_mul_of_nonneg_left (show (1 : Int) ≤ rd l (i - 1) by omega) (show (0 : Int) ≤ 65536 ^ d by have := pw_pos d; omega)
      omega
theorem trim_f (l : List Int) (hd : Dig l) (hl : l.length ≤ 100000) {k : Nat} (hk : l.length < k) : ∃ r, terraceref01_trim.f k l = some r ∧ Norm r ∧ val r = val l ∧ r.length ≤ l.length := by
  unfold terraceref01_trim.f
  exact trim_l l hd hl l.length k (l.length : Int) rfl (by omega) hk (by simp)
/-! Of -/
theorem of_l : ∀ (d k : Nat) (n : Int) (out : List Int), d < k → 0 ≤ n → n < 65536 ^ d → n ≤ 18446744073709551615 → Dig out → out.length + d ≤ 100 → (0 < n ∨ out = [] ∨ 65536 ^ (out.length - 1) ≤ val out) →
    ∃ r, terraceref01_Of.l0 k n out = some r ∧ Norm r ∧ val r = val out + 65536 ^ out.length * n
  | 0, k, n, out, hk, h0, h1, h2, hd, hl, hn => by
    obtain ⟨k, rfl, hk⟩ := fuel hk
    have : n = 0 := by simp at h1; omega
    subst this
    simp only [terraceref01_Of.l0]
    refine ⟨out, by rw [if_neg (by omega)], ⟨hd, ?_⟩, by omega⟩
    rcases hn with hn | hn
    · omega
    · exact hn
  | d + 1, k, n, out, hk, h0, h1, h2, hd, hl, hn => by
    obtain ⟨k, rfl, hk⟩ := fuel hk
    simp only [terraceref01_Of.l0]
    by_cases hz : n > 0
    · rw [if_pos hz, if_pos (by omega), Int.tdiv_eq_ediv_of_nonneg h0, Int.tmod_eq_emod_of_nonneg h0, w64 (by omega) (by omega), wu]
      have e1 : n / 65536 % 18446744073709551616 = n / 65536 := by omega
      rw [e1]
      have hval : val (out ++ [n % 65536]) = val out + 65536 ^ out.length * (n % 65536) := by rw [val_append]; simp [val]
      have hp := pw_pos out.length
      have h0' := (val_range out hd).1
      obtain ⟨r, hr, hn2, hv⟩ := of_l d k (n / 65536) (out ++ [n % 65536]) (by omega) (by omega) (by rw [Int.pow_succ] at h1; omega) (by omega) (hd.append (Dig.one (by omega))) (by simp; omega) (by
        by_cases hq : 0 < n / 65536
        · exact .inl hq
        · right; right
          rw [hval, List.length_append, List.length_singleton, Nat.add_sub_cancel]
          have : n % 65536 = n := by omega
          rw [this]
          have := Int.mul_le_mul_of_nonneg_left (show (1 : Int) ≤ n by omega) (show (0 : Int) ≤ 65536 ^ out.length by omega)
          omega)
      refine ⟨r, hr, hn2, ?_⟩
      rw [hv, hval, List.length_append, List.length_singleton, Int.pow_succ]
      have : n = 65536 * (n / 65536) + n % 65536 := by omega
      generalize (65536 : Int) ^ out.length = p at *
      have e : p * n = p * (65536 * (n / 65536) + n % 65536) := by rw [← this]
      rw [e]; grind
    · have : n = 0 := by omega
      subst this
      refine ⟨out, by rw [if_neg (by omega)], ⟨hd, ?_⟩, by omega⟩
      rcases hn with hn | hn
      · omega
      · exact hn
theorem of_f (n : Int) (h : 0 ≤ n ∧ n ≤ 18446744073709551615) {k : Nat} (hk : 10 ≤ k) : ∃ r, terraceref01_Of.f k n = some r ∧ Norm r ∧ val r = n ∧ r.length ≤ 4 := by
  unfold terraceref01_Of.f
  have e : (65536 : Int) ^ 4 = 18446744073709551616 := by decide
  obtain ⟨r, hr, hn, hv⟩ := of_l 4 k n [] (by omega) h.1 (by omega) h.2 Dig.nil (by simp) (.inr (.inl rfl))
  have hv' : val r = n := by rw [hv]; simp [val]
  exact ⟨r, hr, hn, hv', len_le hn 4 (by omega)⟩
/-! Cmp -/
theorem cmp_l (a b : List Int) (ha : Dig a) (hb : Dig b) (hab : a.length = b.length) (hl : a.length ≤ 100000) (d : Nat) : ∀ (k : Nat) (i : Int), i = (d : Int) - 1 → d ≤ a.length → d < k → ∃ c, terraceref01_Cmp.l0 k a b i = some c ∧ (c > 0 ↔ val (a.take d) > val (b.take d)) ∧ (c = 0 ↔ val (a.take d) = val (b.take d)) := by
  induction d with
  | zero =>
    intro k i hi hle hk
    obtain ⟨k, rfl, hk⟩ := fuel hk
    simp only [terraceref01_Cmp.l0]
    rw [if_neg (by omega)]
    exact ⟨0, rfl, by simp, by simp⟩
  | succ d ih =>
    intro k i hi hle hk
    obtain ⟨k, rfl, hk⟩ := fuel hk
    simp only [terraceref01_Cmp.l0]
    rw [if_pos (by omega), if_pos (by omega), if_pos (by omega), if_pos (by omega), w64 (by omega) (by omega)]
    have e1 := val_take a i (by omega)
    have e2 := val_take b i (by omega)
    rw [show (i + 1).toNat = d + 1 from by omega, show i.toNat = d from by omega] at e1 e2
    unfold dg at e1 e2
    rw [if_pos (by omega)] at e1 e2
    have r1 := val_range _ (ha.take d)
    have r2 := val_range _ (hb.take d)
    rw [List.length_take, Nat.min_eq_left (by omega)] at r1 r2
    have hp := pw_pos d
    by_cases h1 : rd a i < rd b i
    · rw [if_pos h1]
      have : (65536 : Int) ^ d * (rd a i + 1) ≤ 65536 ^ d * rd b i := Int.mul_le_mul_of_nonneg_left (by omega) (by omega)
      have e3 : (65536 : Int) ^ d * (rd a i + 1) = 65536 ^ d * rd a i + 65536 ^ d := by grind
      exact ⟨-1, rfl, by omega, by omega⟩
    · rw [if_neg h1]
      by_cases h2 : rd a i > rd b i
      · rw [if_pos h2]
        have : (65536 : Int) ^ d * (rd b i + 1) ≤ 65536 ^ d * rd a i := Int.mul_le_mul_of_nonneg_left (by omega) (by omega)
        have e3 : (65536 : Int) ^ d * (rd b i + 1) = 65536 ^ d * rd b i + 65536 ^ d := by grind
        exact ⟨1, rfl, by omega, by omega⟩
      · rw [if_neg h2]
        have : rd a i = rd b i := by omega
        rw [this] at e1
        obtain ⟨c, hc, h3, h4⟩ := ih k (i - 1) (by omega) (by omega) (by omega)
        exact ⟨c, hc, by rw [h3]; omega, by rw [h4]; omega⟩
theorem cmp_f (a b : List Int) (ha : Norm a) (hb : Norm b) (hl : a.length ≤ 100) (hl2 : b.length ≤ 100) {k : Nat} (hk : 110 ≤ k) : ∃ c, terraceref01_Cmp.f k a b = some c ∧ (c > 0 ↔ val a > val b) ∧ (c = 0 ↔ val a = val b) := by
  unfold terraceref01_Cmp.f
  have ra := val_range a ha.1
  have rb := val_range b hb.1
  by_cases h : (a.length : Int) = (b.length : Int)
  · rw [if_pos h, w64 (by omega) (by omega)]
    obtain ⟨c, hc, h3, h4⟩ := cmp_l a b ha.1 hb.1 (by omega) (by omega) a.length k ((a.length : Int) - 1) rfl (by omega) (by omega)
    rw [List.take_of_length_le (Nat.le_refl _), List.take_of_length_le (by omega)] at h3 h4
    exact ⟨c, hc, h3, h4⟩
  · rw [if_neg h]
    by_cases h2 : (a.length : Int) < (b.length : Int)
    · rw [if_pos h2]
      have hb2 : 65536 ^ (b.length - 1) ≤ val b := by
        rcases hb.2 with rfl | hb2
        · simp only [List.length_nil] at h2; omega
        · exact hb2
      have := pw_le (show a.length ≤ b.length - 1 by omega)
      exact ⟨-1, rfl, by omega, by omega⟩
    · rw [if_neg h2]
      have ha2 : 65536 ^ (a.length - 1) ≤ val a := by
        rcases ha.2 with rfl | ha2
        · simp only [List.length_nil] at h h2; omega
        · exact ha2
      have := pw_le (show b.length ≤ a.length - 1 by omega)
      exact ⟨1, rfl, by omega, by omega⟩
/-! Add -/
theorem add_l (a b : List Int) (ha : Dig a) (hb : Dig b) (hla : a.length ≤ 100) (hlb : b.length ≤ 100) (d : Nat) : ∀ (k : Nat) (out : List Int) (c i : Int), 0 ≤ i → i ≤ 102 → i + d = 102 → out.length = i.toNat → 0 ≤ c → c ≤ 1 → Dig out → val out + 65536 ^ i.toNat * c = val (a.take i.toNat) + val (b.take i.toNat) →
    (100 ≤ i - 1 → c = 0) → 2 * d + 200 < k → ∃ r, terraceref01_Add.l0 k a b out c i = some r ∧ Norm r ∧ val r = val a + val b ∧ r.length ≤ 102 := by
  induction d with
  | zero =>
    intro k out c i h0 h1 hd hl hc0 hc1 hdig hv hlast hk
    obtain ⟨k, rfl⟩ : ∃ m, k = m + 2 := ⟨k - 2, by omega⟩
    have hc : c = 0 := hlast (by omega)
    simp only [terraceref01_Add.l0, terraceref01_Add.j1]
    rw [if_neg (by omega), if_neg (by omega), if_neg (by simp; omega)]
    obtain ⟨r, hr, hn, hrv, hrl⟩ := trim_f out hdig (by omega) (k := k) (by omega)
    rw [hr]; simp only [Option.bind_some]
    rw [List.take_of_length_le (by omega), List.take_of_length_le (by omega), hc] at hv
    exact ⟨r, rfl, hn, by omega, by omega⟩
  | succ d ih =>
    intro k out c i h0 h1 hd hl hc0 hc1 hdig hv hlast hk
    obtain ⟨k, rfl⟩ : ∃ m, k = m + 2 := ⟨k - 2, by omega⟩
    have ga := dg_range ha i h0
    have gb := dg_range hb i h0
    have ta := val_take a i h0
    have tb := val_take b i h0
    have hp := pw_pos i.toNat
    have step : ∀ n, n = c + dg a i + dg b i → ∃ r, terraceref01_Add.l0 k a b (out ++ [Int.tmod n 65536]) (wrap64 (Int.tdiv n 65536)) (wrap64 (i + 1)) = some r ∧ Norm r ∧ val r = val a + val b ∧ r.length ≤ 102 := by
      intro n hn
      rw [Int.tdiv_eq_ediv_of_nonneg (by omega), Int.tmod_eq_emod_of_nonneg (by omega), w64 (by omega) (by omega), w64 (n := i + 1) (by omega) (by omega)]
      refine ih k (out ++ [n % 65536]) (n / 65536) (i + 1) (by omega) (by omega) (by omega) (by simp; omega) (by omega) (by omega) (hdig.append (Dig.one (by omega))) ?_ ?_ (by omega)
      · rw [val_append, ta, tb, hl, show (i + 1).toNat = i.toNat + 1 from by omega, Int.pow_succ]
        simp only [val]
        have e : n = 65536 * (n / 65536) + n % 65536 := by omega
        generalize n / 65536 = x at *
        generalize n % 65536 = y at *
        generalize (65536 : Int) ^ i.toNat = p at *
        have e2 : p * (65536 * x + y) = p * (c + dg a i + dg b i) := by rw [← e, hn]
        have e3 : p * (c + dg a i + dg b i) = p * c + p * dg a i + p * dg b i := by grind
        have e4 : p * (65536 * x + y) = p * 65536 * x + p * y := by grind
        have e5 : p * (y + 65536 * 0) = p * y := by grind
        omega
      · intro hi
        have za : dg a i = 0 := by unfold dg; rw [if_neg (by omega)]
        have zb : dg b i = 0 := by unfold dg; rw [if_neg (by omega)]
        omega
    simp only [terraceref01_Add.l0]
    by_cases h2 : i < (a.length : Int)
    · rw [if_pos h2]
      have da : dg a i = rd a i := by unfold dg; rw [if_pos h2]
      simp only [terraceref01_Add.j1]
      rw [if_pos trivial, if_pos h2, if_pos h0]
      by_cases h3 : i < (b.length : Int)
      · have db : dg b i = rd b i := by unfold dg; rw [if_pos h3]
        rw [if_pos h3, if_pos (by omega), w64 (n := c + rd a i) (by omega) (by omega), w64 (n := c + rd a i + rd b i) (by omega) (by omega)]
        exact step _ (by omega)
      · have db : dg b i = 0 := by unfold dg; rw [if_neg h3]
        rw [if_neg h3, if_pos (by omega), w64 (n := c + rd a i) (by omega) (by omega)]
        exact step _ (by omega)
    · have da : dg a i = 0 := by unfold dg; rw [if_neg h2]
      rw [if_neg h2]
      by_cases h3 : i < (b.length : Int)
      · have db : dg b i = rd b i := by unfold dg; rw [if_pos h3]
        rw [if_pos h3]
        simp only [terraceref01_Add.j1]
        rw [if_pos trivial, if_neg h2, if_pos h3, if_pos h0, if_pos (by omega), w64 (n := c + rd b i) (by omega) (by omega)]
        exact step _ (by omega)
      · have db : dg b i = 0 := by unfold dg; rw [if_neg h3]
        rw [if_neg h3]
        simp only [terraceref01_Add.j1]
        by_cases h4 : c > 0
        · rw [if_pos (by simp; omega), if_neg h2, if_neg h3, if_pos (by omega)]
          exact step _ (by omega)
        · rw [if_neg (by simp; omega)]
          obtain ⟨r, hr, hn, hrv, hrl⟩ := trim_f out hdig (by omega) (k := k) (by omega)
          rw [hr]; simp only [Option.bind_some]
          have hc : c = 0 := by omega
          rw [List.take_of_length_le (by omega), List.take_of_length_le (by omega), hc] at hv
          exact ⟨r, rfl, hn, by omega, by omega⟩
theorem add_f1 (a b : List Int) (ha : Norm a) (hb : Norm b) (hla : a.length ≤ 100) (hlb : b.length ≤ 100) {k : Nat} (hk : 500 ≤ k) : ∃ r, terraceref01_Add.f k a b = some r ∧ Norm r ∧ val r = val a + val b ∧ r.length ≤ 102 := by
  unfold terraceref01_Add.f
  exact add_l a b ha.1 hb.1 hla hlb 102 k [] 0 0 (by omega) (by omega) (by omega) (by simp) (by omega) (by omega) Dig.nil (by simp [val]) (by omega) (by omega)
/-! Mul -/
theorem rd_set (l : List Int) (i : Nat) (v : Int) (m : Int) (hi : i < l.length) : rd (l.set i v) m = if m.toNat = i then v else rd l m := by
  unfold rd
  rw [List.getD_eq_getElem?_getD, List.getD_eq_getElem?_getD, List.getElem?_set]
  by_cases h : i = m.toNat
  · rw [if_pos h, if_pos (by omega), if_pos h.symm]; rfl
  · rw [if_neg h, if_neg (fun e => h e.symm)]
theorem rd_range {l : List Int} (h : Dig l) (i : Int) (h0 : 0 ≤ i) (h1 : i < (l.length : Int)) : 0 ≤ rd l i ∧ rd l i ≤ 65535 := by
  have := dg_range h i h0
  unfold dg at this; rwa [if_pos h1] at this
theorem val_set' (l : List Int) (i : Int) (v : Int) (h0 : 0 ≤ i) (h : i < (l.length : Int)) : val (l.set i.toNat v) = val l + 65536 ^ i.toNat * (v - rd l i) := by
  rw [val_set l i.toNat v (by omega)]; rfl
theorem mul_in (a b : List Int) (ha : Dig a) (hb : Dig b) (hla : a.length ≤ 20) (hlb : b.length ≤ 20) (i : Int) (hi0 : 0 ≤ i) (hi1 : i < (a.length : Int)) (V : Int) (d : Nat) : ∀ (k : Nat) (out : List Int) (c j : Int), 0 ≤ j → j ≤ (b.length : Int) + 1 → j + d = (b.length : Int) + 1 → (out.length : Int) = a.length + b.length + 1 → Dig out → 0 ≤ c → c ≤ 65535 → (j = (b.length : Int) + 1 → c = 0) →
    val out + 65536 ^ (i + j).toNat * c = V + 65536 ^ i.toNat * (rd a i * val (b.take j.toNat)) → (∀ m : Int, i + b.length + (if j = (b.length : Int) + 1 then 1 else 0) ≤ m → rd out m = 0) → 2 * d + 4 ≤ k →
    ∃ k' out', k ≤ k' + 2 * d + 4 ∧ terraceref01_Mul.l1 k a b out i c j = terraceref01_Mul.l0 k' a b out' (i + 1) ∧ (out'.length : Int) = a.length + b.length + 1 ∧ Dig out' ∧ val out' = V + 65536 ^ i.toNat * (rd a i * val b) ∧ (∀ m : Int, i + 1 + b.length ≤ m → rd out' m = 0) := by
  have ra := rd_range ha i hi0 hi1
  induction d with
  | zero =>
    intro k out c j h0 h1 hd hl hdig hc0 hc1 hc2 hv hz hk
    obtain ⟨k, rfl⟩ : ∃ m, k = m + 2 := ⟨k - 2, by omega⟩
    have hj : j = (b.length : Int) + 1 := by omega
    have hc := hc2 hj
    simp only [terraceref01_Mul.l1, terraceref01_Mul.j2]
    rw [if_neg (by omega), if_neg (by simp; omega), w64 (n := i + 1) (by omega) (by omega)]
    refine ⟨k, out, by omega, rfl, hl, hdig, ?_, ?_⟩
    · rw [hc, List.take_of_length_le (by omega)] at hv; omega
    · intro m hm; exact hz m (by rw [if_pos hj]; omega)
  | succ d ih =>
    intro k out c j h0 h1 hd hl hdig hc0 hc1 hc2 hv hz hk
    obtain ⟨k, rfl⟩ : ∃ m, k = m + 2 := ⟨k - 2, by omega⟩
    have hjn : ¬ j = (b.length : Int) + 1 := by omega
    simp only [if_neg hjn] at hz
    have ro := rd_range hdig (i + j) (by omega) (by omega)
    simp only [terraceref01_Mul.l1]
    by_cases hj : j < (b.length : Int)
    · rw [if_pos hj]
      simp only [terraceref01_Mul.j2]
      have rb := rd_range hb j h0 hj
      have hp0 : 0 ≤ rd a i * rd b j := Int.mul_nonneg ra.1 rb.1
      have hp1 : rd a i * rd b j ≤ 65535 * 65535 := Int.mul_le_mul ra.2 rb.2 rb.1 (by omega)
      rw [if_pos trivial, w64 (n := i + j) (by omega) (by omega), if_pos (by omega), if_pos (by omega), if_pos hj, if_pos hi0, if_pos hi1, if_pos h0, w64 (n := rd out (i + j) + c) (by omega) (by omega), w64 (n := rd a i * rd b j) (by omega) (by omega), w64 (n := rd out (i + j) + c + rd a i * rd b j) (by omega) (by omega), Int.tdiv_eq_ediv_of_nonneg (by omega), Int.tmod_eq_emod_of_nonneg (by omega), w64 (by omega) (by omega), w64 (n := j + 1) (by omega) (by omega)]
      obtain ⟨n, hn⟩ : ∃ n, rd out (i + j) + c + rd a i * rd b j = n := ⟨_, rfl⟩
      rw [hn]
      have hcn : n / 65536 ≤ 65535 := by omega
      obtain ⟨k', out', h2, h3, h4, h5, h6, h7⟩ := ih k (out.set (i + j).toNat (n % 65536)) (n / 65536) (j + 1) (by omega) (by omega) (by omega) (by rw [List.length_set]; exact hl) (hdig.set _ (by omega)) (by omega) (by omega) (by
          intro hh; exfalso; omega) (by
          rw [val_set' out (i + j) (n % 65536) (by omega) (by omega), show (i + (j + 1)).toNat = (i + j).toNat + 1 from by omega, Int.pow_succ, val_take b j h0]
          unfold dg; rw [if_pos hj]
          have e : n = 65536 * (n / 65536) + n % 65536 := by omega
          have e0 : (65536 : Int) ^ (i + j).toNat = 65536 ^ i.toNat * 65536 ^ j.toNat := by rw [← Int.pow_add]; congr 1; omega
          rw [e0] at hv ⊢
          generalize n / 65536 = x at *
          generalize n % 65536 = y at *
          generalize (65536 : Int) ^ i.toNat = p at *
          generalize (65536 : Int) ^ j.toNat = q at *
          generalize rd a i = u at *
          generalize rd b j = v at *
          generalize rd out (i + j) = o at *
          generalize val (b.take j.toNat) = t at *
          have e2 : y = o + c + u * v - 65536 * x := by omega
          rw [e2]
          have e3 : p * q * (o + c + u * v - 65536 * x - o) + p * q * 65536 * x = p * q * c + p * (u * (q * v)) := by grind
          have e4 : p * (u * (t + q * v)) = p * (u * t) + p * (u * (q * v)) := by grind
          omega) (by
          intro m hm
          rw [rd_set _ _ _ _ (by omega)]
          rw [if_neg (by split at hm <;> omega)]
          exact hz m (by split at hm <;> omega)) (by omega)
      exact ⟨k', out', by omega, h3, h4, h5, h6, h7⟩
    · rw [if_neg hj]
      simp only [terraceref01_Mul.j2]
      have hjl : j = b.length := by omega
      have hzo : rd out (i + j) = 0 := hz _ (by omega)
      by_cases hc : c > 0
      · rw [if_pos (by simp; omega), w64 (n := i + j) (by omega) (by omega), if_pos (by omega), if_pos (by omega), if_neg hj, w64 (n := rd out (i + j) + c) (by omega) (by omega), Int.tdiv_eq_ediv_of_nonneg (by omega), Int.tmod_eq_emod_of_nonneg (by omega), w64 (by omega) (by omega), w64 (n := j + 1) (by omega) (by omega), hzo]
        have e1 : (0 + c) / 65536 = 0 := by omega
        have e2 : (0 + c) % 65536 = c := by omega
        rw [e1, e2]
        obtain ⟨k', out', h2, h3, h4, h5, h6, h7⟩ := ih k (out.set (i + j).toNat c) 0 (j + 1) (by omega) (by omega) (by omega) (by rw [List.length_set]; exact hl) (hdig.set _ (by omega)) (by omega) (by omega) (by intro _; rfl) (by
            rw [val_set' out (i + j) c (by omega) (by omega), hzo, List.take_of_length_le (by omega)]
            rw [List.take_of_length_le (by omega)] at hv
            have : (65536 : Int) ^ (i + j).toNat * (c - 0) = 65536 ^ (i + j).toNat * c := by grind
            omega) (by
            intro m hm
            rw [if_pos (by omega)] at hm
            rw [rd_set _ _ _ _ (by omega), if_neg (by omega)]
            exact hz m (by omega)) (by omega)
        exact ⟨k', out', by omega, h3, h4, h5, h6, h7⟩
      · rw [if_neg (by simp; omega), w64 (n := i + 1) (by omega) (by omega)]
        have hc' : c = 0 := by omega
        refine ⟨k, out, by omega, rfl, hl, hdig, ?_, ?_⟩
        · rw [hc', List.take_of_length_le (by omega)] at hv; omega
        · intro m hm; exact hz m (by omega)
theorem mul_out (a b : List Int) (ha : Dig a) (hb : Dig b) (hla : a.length ≤ 20) (hlb : b.length ≤ 20) (d : Nat) : ∀ (k : Nat) (out : List Int) (i : Int), 0 ≤ i → i + d = (a.length : Int) → (out.length : Int) = a.length + b.length + 1 → Dig out → val out = val (a.take i.toNat) * val b → (∀ m : Int, i + b.length ≤ m → rd out m = 0) → 60 * d + 200 ≤ k →
    ∃ r, terraceref01_Mul.l0 k a b out i = some r ∧ Norm r ∧ val r = val a * val b ∧ r.length ≤ a.length + b.length + 1 := by
  induction d with
  | zero =>
    intro k out i h0 hd hl hdig hv hz hk
    obtain ⟨k, rfl⟩ : ∃ m, k = m + 1 := ⟨k - 1, by omega⟩
    simp only [terraceref01_Mul.l0]
    rw [if_neg (by omega)]
    obtain ⟨r, hr, hn, hrv, hrl⟩ := trim_f out hdig (by omega) (k := k) (by omega)
    rw [hr]; simp only [Option.bind_some]
    rw [List.take_of_length_le (by omega)] at hv
    exact ⟨r, rfl, hn, by omega, by omega⟩
  | succ d ih =>
    intro k out i h0 hd hl hdig hv hz hk
    obtain ⟨k, rfl⟩ : ∃ m, k = m + 1 := ⟨k - 1, by omega⟩
    simp only [terraceref01_Mul.l0]
    rw [if_pos (by omega)]
    obtain ⟨k', out', h2, h3, h4, h5, h6, h7⟩ := mul_in a b ha hb hla hlb i h0 (by omega) (val out) (b.length + 1) k out 0 0 (by omega) (by omega) (by omega) hl hdig (by omega) (by omega) (by omega) (by simp [val]) (by
      intro m hm; rw [if_neg (by omega)] at hm; exact hz m (by omega)) (by omega)
    rw [h3]
    refine ih k' out' (i + 1) (by omega) (by omega) h4 h5 ?_ (by intro m hm; exact h7 m (by omega)) (by omega)
    rw [h6, hv, val_take a i h0]
    unfold dg; rw [if_pos (by omega)]; grind
theorem val_replicate (n : Nat) : val (List.replicate n 0) = 0 := by
  induction n with
  | zero => rfl
  | succ n ih => rw [List.replicate_succ, val, ih]; rfl
theorem mul_f1 (a b : List Int) (ha : Norm a) (hb : Norm b) (hla : a.length ≤ 20) (hlb : b.length ≤ 20) {k : Nat} (hk : 1400 ≤ k) : ∃ r, terraceref01_Mul.f k a b = some r ∧ Norm r ∧ val r = val a * val b ∧ r.length ≤ a.length + b.length + 1 := by
  unfold terraceref01_Mul.f
  rw [w64 (n := (a.length : Int) + b.length) (by omega) (by omega), w64 (by omega) (by omega), if_pos (by omega), if_pos (by omega)]
  refine mul_out a b ha.1 hb.1 hla hlb a.length k _ 0 (by omega) (by omega) (by simp; omega) ?_ ?_ ?_ (by omega)
  · intro x hx
    have := List.eq_of_mem_replicate hx
    omega
  · rw [val_replicate]; simp [val]
  · intro m hm
    unfold rd
    rw [List.getD_eq_getElem?_getD, List.getElem?_replicate]
    split <;> rfl
theorem norm_small : Norm [1] ∧ Norm [0, 0, 1] := by
  constructor
  · exact ⟨Dig.one (by omega), .inr (by decide)⟩
  · refine ⟨fun x hx => ?_, .inr (by decide)⟩
    simp at hx; omega
theorem up_f (a : List Int) (ha : Norm a) (hl : a.length ≤ 12) {k : Nat} (hk : 1400 ≤ k) : ∃ r, terraceref01_Up.f k a = some r ∧ Norm r ∧ val r = val a * 4294967296 ∧ r.length ≤ a.length + 4 := by
  unfold terraceref01_Up.f
  obtain ⟨r, hr, hn, hv, hl2⟩ := mul_f1 a [0, 0, 1] ha norm_small.2 (by omega) (by decide) hk
  have e : val [0, 0, 1] = 4294967296 := by simp [val]
  exact ⟨r, bs hr rfl, hn, by rw [hv, e], hl2⟩
/-- Floor: is q the greatest number, up to 2^64 - 1, that times b isn't above a -/
theorem floor_yes (q : Int) (a b : List Int) (hq : 0 ≤ q ∧ q ≤ 18446744073709551615) (ha : Norm a) (hb : Norm b) (hla : a.length ≤ 15) (hlb : b.length ≤ 10) {k : Nat} (hk : 1400 ≤ k)
    (h0 : val b = 0 → q = 18446744073709551615) (h1 : val b ≠ 0 → q * val b ≤ val a ∧ (q = 18446744073709551615 ∨ val a < (q + 1) * val b)) : terraceref01_Floor.f k q a b = some true := by
  unfold terraceref01_Floor.f
  by_cases hz : (b.length : Int) = 0
  · rw [if_pos hz]
    have : b = [] := List.eq_nil_of_length_eq_zero (by omega)
    rw [h0 (by rw [this]; rfl)]; simp
  · rw [if_neg hz]
    have hbv : val b ≠ 0 := by
      rcases hb.2 with rfl | hb2
      · simp at hz
      · have := pw_pos (b.length - 1); omega
    obtain ⟨h2, h3⟩ := h1 hbv
    obtain ⟨r, hr, rn, rv, rl⟩ := of_f q hq (k := k) (by omega)
    refine bs hr ?_
    obtain ⟨m, hm, mn, mv, ml⟩ := mul_f1 r b rn hb (by omega) (by omega) hk
    refine bs hm ?_
    obtain ⟨c, hc, c1, c2⟩ := cmp_f m a mn ha (by omega) (by omega) (k := k) (by omega)
    refine bs hc ?_
    rw [mv, rv] at c1
    rw [if_neg (by omega)]
    by_cases hmax : q = 18446744073709551615
    · rw [if_pos hmax]
    · rw [if_neg hmax]
      obtain ⟨s, hs, sn, sv, sl⟩ := add_f1 r [1] rn norm_small.1 (by omega) (by decide) (k := k) (by omega)
      refine bs hr (bs hs ?_)
      have sl2 : s.length ≤ 5 := by
        have e : (65536 : Int) ^ 5 = 1208925819614629174706176 := by decide
        have e1 : val [1] = 1 := rfl
        exact len_le sn 5 (by omega)
      obtain ⟨t, ht, tn, tv, tl⟩ := mul_f1 s b sn hb (by omega) (by omega) hk
      refine bs ht ?_
      obtain ⟨d, hd, d1, d2⟩ := cmp_f t a tn ha (by omega) (by omega) (k := k) (by omega)
      refine bs hd ?_
      have e1 : val [1] = 1 := rfl
      rw [tv, sv, rv, e1] at d1
      rcases h3 with h3 | h3
      · omega
      · simp only [Option.some.injEq, decide_eq_true_eq]
        omega
theorem awake_k {k : Nat} (hk : 100 ≤ k) : terracelaw01_awake.f k = some true :=
  at_rounds (g := fun k => terracelaw01_awake.f k) (fun k => terracelaw01_awake.mono k) hk (by decide +kernel)
theorem mul_floor (a b : Int) (ha : 0 ≤ a ∧ a ≤ 18446744073709551615) (hb : 0 ≤ b ∧ b ≤ 18446744073709551615) : mulv a b * 4294967296 ≤ a * b ∧ (mulv a b = 18446744073709551615 ∨ a * b < (mulv a b + 1) * 4294967296) := by
  have h := mul64_range a b ha hb
  unfold mulv; split <;> omega
theorem prod_floor (a b : Int) (ha : 0 ≤ a ∧ a ≤ 18446744073709551615) (hb : 0 ≤ b ∧ b ≤ 18446744073709551615) (lp lo : List Int) (np : Norm lp) (no : Norm lo) (vp : val lp = a * b) (vo : val lo = 4294967296) (l1 : lp.length ≤ 12) (l2 : lo.length ≤ 9) {k : Nat} (hk : 1400 ≤ k) :
    terraceref01_Floor.f k (mulv a b) lp lo = some true := by
  refine floor_yes _ lp lo (mulv_range a b ha hb) np no (by omega) (by omega) hk (by omega) ?_
  intro _; rw [vp, vo]; exact mul_floor a b ha hb
theorem times_f (a n : Int) (ha : 0 ≤ a ∧ a ≤ 18446744073709551615) (hn : 0 ≤ n ∧ n ≤ 18446744073709551615) : fix_F_Times.f a n = some (mulv a n) := by
  unfold fix_F_Times.f mulv
  have h := mul64_range a n ha hn
  rw [mul64_f a n ha hn]; simp only [Option.bind_some]
  rw [shifted_f _ h.1 h.2]; rfl
theorem FixProducts : terracelaw01_FixProducts.Pure := by
  intro a b n ha hb hn
  have ha := wf_u64 ha
  have hb := wf_u64 hb
  have hn := wf_u64 hn
  obtain ⟨k, hk⟩ : ∃ k, 2000 < k := ⟨2001, by omega⟩
  refine ⟨k, ?_⟩
  obtain ⟨one, ho, no, vo, lo⟩ := up_f [1] norm_small.1 (by decide) (k := k) (by omega)
  obtain ⟨la, h1, n1, v1, l1⟩ := of_f a ha (k := k) (by omega)
  obtain ⟨lb, h2, n2, v2, l2⟩ := of_f b hb (k := k) (by omega)
  obtain ⟨ln, h3, n3, v3, l3⟩ := of_f n hn (k := k) (by omega)
  have g1 : terracelaw01_of.f k a = some la := bs h1 rfl
  have g2 : terracelaw01_of.f k b = some lb := bs h2 rfl
  obtain ⟨p, h4, n4, v4, l4⟩ := mul_f1 la lb n1 n2 (by omega) (by omega) (k := k) (by omega)
  obtain ⟨q, h5, n5, v5, l5⟩ := mul_f1 la ln n1 n3 (by omega) (by omega) (k := k) (by omega)
  have e1 : val one = 4294967296 := by rw [vo]; simp [val]
  have lo' : one.length ≤ 5 := by simpa using lo
  unfold terracelaw01_FixProducts.f
  refine bs ho (bs (mul_f a b ha hb) (bs g1 (bs g2 (bs h4 (bs (prod_floor a b ha hb p one n4 no (by rw [v4, v1, v2]) e1 (by omega) (by omega) (by omega)) ?_)))))
  rw [if_pos rfl]
  refine bs (times_f a n ha hn) (bs g1 (bs h3 (bs h5 (bs (prod_floor a n ha hn q one n5 no (by rw [v5, v1, v3]) e1 (by omega) (by omega) (by omega)) ?_))))
  rw [if_pos rfl]
  exact bs (awake_k (by omega)) rfl

end Go.Proofs.Ytibihicmhakacaa.Pure
