/- Proved: of any rates the place is told up to which none is above one (for every input that the statement's guards let in; the Go function returns true and leaves its arguments as they were). -/
import Derived.Test.YthkeoioejombpaaPSplitFitsx2
import Derived.Test.YthkeoioejombpaaWSized
set_option linter.unusedVariables false
set_option linter.unusedSimpArgs false
namespace Go.Proofs.Ythkeoioejombpaa.PrintWords
open Go.ChangeShapes Go.WideShapes
theorem sized_ints {H : Type} {enc : TypeId × Value → H} {P : Program} {W : World} {base : Nat} {spare : Nat → Bool} {held : Bool} {t e : TypeId} {k : IntKind} {a : Option Addr} {len cap : Nat} {d : DataW H} {ps : List MemPlace} {ts : List TypeId} {ds : List (DataW H)} {j : Nat}
    (hsz : (DataW.weightsEach P ts ds).all (· ≤ reachBytes) = true) (ht : ts[j]? = some t) (hd : ds[j]? = some d) (hu : P.underlying t = some (.slice e)) (he : P.underlying e = some (.int k)) (hc : P.cellsOf e = 1) {B : Nat} (hB : P.bytesOf e = B)
    (h : DataW.Trod enc P W base spare held t (.slice a len cap) d ps) : len * B ≤ 140737488351232 :=
  Go.Proofs.YthkeoioejombpaaW.PrintWords.sized_ints hsz ht hd hu he hc hB h
end Go.Proofs.Ythkeoioejombpaa.PrintWords
namespace Go.Proofs.Ythkeoioejombpaa.Pure
open Go.RowKit Go.Proofs.Ythkeoioejombpaa.PSplitFits Go.Proofs.YthkeoioejombpaaW.PrintWords Go.Proofs.YthkeoioejombpaaW.PrintLast Go.Proofs.YthkeoioejombpaaW.PrintMore

theorem wf_u8 {a : Int} (h : (Lit.int .u8 a).wf = true) : 0 ≤ a ∧ a ≤ 255 := by
  simpa [Lit.wf, IntKind.min, IntKind.max, IntKind.signed, IntKind.bits] using h
theorem wf_u16 {a : Int} (h : (Lit.int .u16 a).wf = true) : 0 ≤ a ∧ a ≤ 65535 := by
  simpa [Lit.wf, IntKind.min, IntKind.max, IntKind.signed, IntKind.bits] using h
theorem wf_u32 {a : Int} (h : (Lit.int .u32 a).wf = true) : 0 ≤ a ∧ a ≤ 4294967295 := by
  simpa [Lit.wf, IntKind.min, IntKind.max, IntKind.signed, IntKind.bits] using h
theorem wf_u64 {a : Int} (h : (Lit.int .u64 a).wf = true) : 0 ≤ a ∧ a ≤ 18446744073709551615 := by
  simpa [Lit.wf, IntKind.min, IntKind.max, IntKind.signed, IntKind.bits] using h
theorem wf_i64 {a : Int} (h : (Lit.int .i64 a).wf = true) : -9223372036854775808 ≤ a ∧ a ≤ 9223372036854775807 := by
  simpa [Lit.wf, IntKind.min, IntKind.max, IntKind.signed, IntKind.bits] using h
theorem w64 {n : Int} (h : -9223372036854775808 ≤ n) (h' : n ≤ 9223372036854775807) : wrap64 n = n := by
  unfold wrap64; omega
theorem fuel {k n : Nat} (h : n < k) : ∃ m, k = m + 1 ∧ n ≤ m := ⟨k - 1, by omega, by omega⟩
theorem u64 {n : Int} (h : 0 ≤ n) (h' : n ≤ 18446744073709551615) : IntKind.u64.wrap n = n := by
  simp only [IntKind.wrap, IntKind.bits, IntKind.signed]; simp; omega
theorem right_f (a : Int) : split_right.f a = some (decide (1 ≤ a ∧ a ≤ 8)) := by
  unfold split_right.f
  by_cases h : 1 ≤ a
  · rw [if_pos h]; simp [h]
  · rw [if_neg h]; simp [h]
def cum (r L k : Int) : Int := r / 2 ^ (L - 1 - k).toNat
theorem half_f (a k : Int) (h0 : 0 ≤ k) (h1 : k ≤ 64) : fix_F_Half.f a k = some (a / 2 ^ k.toNat) := by
  unfold fix_F_Half.f shr mx IntKind.bits
  simp only
  have : ¬ k < 0 := by omega
  rw [if_neg this, Nat.min_eq_left (by omega)]
theorem cum_f (r L k : Int) (hL : 1 ≤ L) (hL8 : L ≤ 8) (h0 : 0 ≤ k) (h1 : k < L) : split_Cum.f r L k = some (cum r L k, 0) := by
  unfold split_Cum.f
  simp (disch := omega) only [right_f, Option.bind_some, w64, half_f, if_pos, if_neg, decide_eq_true_eq]
  rfl
theorem cum_no (r L k : Int) (h : ¬ (1 ≤ L ∧ L ≤ 8 ∧ 0 ≤ k ∧ k < L)) : split_Cum.f r L k = some (0, 11) := by
  unfold split_Cum.f
  rw [right_f]; simp only [Option.bind_some, decide_eq_true_eq]
  split
  · split
    · rfl
    · rw [if_pos (by omega)]
  · rfl
def cums (r L : Int) : Nat → Int → List Int
  | 0, _ => []
  | d + 1, i => cum r L i :: cums r L d (i + 1)
theorem cums_length (r L : Int) : ∀ d i, (cums r L d i).length = d
  | 0, _ => rfl
  | d + 1, i => by simp [cums, cums_length r L d]
theorem cums_rd (r L : Int) : ∀ (d : Nat) (i j : Int), 0 ≤ j → j < (d : Int) → rd (cums r L d i) j = cum r L (i + j)
  | 0, _, _, _, _ => by omega
  | d + 1, i, j, h0, h1 => by
    by_cases hj : j = 0
    · subst hj; simp [cums, rd]
    · have := cums_rd r L d (i + 1) (j - 1) (by omega) (by omega)
      unfold rd at this ⊢
      obtain ⟨m, hm⟩ : ∃ m, j.toNat = m + 1 := ⟨j.toNat - 1, by omega⟩
      rw [hm]
      simp only [cums, List.getD_cons_succ]
      rw [show (j - 1).toNat = m from by omega] at this
      rw [this]; congr 1; omega
theorem all_l (r L : Int) (hL : 1 ≤ L) (hL8 : L ≤ 8) (d : Nat) : ∀ (k : Nat) (xs : List Int) (i : Int), 0 ≤ i → L - i = d → xs.length ≤ 100 + i.toNat → d < k → split_All.l0 k r L xs L i = some (xs ++ cums r L d i) := by
  induction d with
  | zero =>
    intro k xs i h0 hd hx hk
    obtain ⟨k, rfl, hk⟩ := fuel hk
    simp (disch := omega) only [split_All.l0, if_neg, cums, List.append_nil]
  | succ d ih =>
    intro k xs i h0 hd hx hk
    obtain ⟨k, rfl, hk⟩ := fuel hk
    simp (disch := omega) only [split_All.l0, if_pos, cum_f, Option.bind_some, w64, cums]
    rw [ih k _ (i + 1) (by omega) (by omega) (by simp; omega) (by omega)]
    simp
theorem all_f (r L : Int) (hL : 1 ≤ L) (hL8 : L ≤ 8) {k : Nat} (hk : 10 ≤ k) : split_All.f k r L = some (cums r L L.toNat 0) := by
  unfold split_All.f mx
  rw [if_neg (by omega), all_l r L hL hL8 L.toNat k [] 0 (by omega) (by omega) (by simp) (by omega)]; rfl
theorem all_no (r L : Int) (h : ¬ (1 ≤ L ∧ L ≤ 8)) {k : Nat} (hk : 10 ≤ k) : split_All.f k r L = some [] := by
  obtain ⟨k, rfl⟩ : ∃ m, k = m + 1 := ⟨k - 1, by omega⟩
  unfold split_All.f mx
  simp only [split_All.l0]
  rw [cum_no r L 0 (by omega)]
  split <;> simp <;> omega
theorem awake_k {k : Nat} (hk : 100 ≤ k) : terracelaw21_awake.f k = some true :=
  at_rounds (g := fun k => terracelaw21_awake.f k) (fun k => terracelaw21_awake.mono k) hk (by decide +kernel)
def fitd (own : Int) (xs : List Int) : Nat → Int → Int
  | 0, i => i - 1
  | d + 1, i => if rd xs i > own then i - 1 else fitd own xs d (i + 1)
theorem fitd_range (own : Int) (xs : List Int) : ∀ (d : Nat) (i : Int), i - 1 ≤ fitd own xs d i ∧ fitd own xs d i ≤ i + d - 1
  | 0, i => by simp [fitd]
  | d + 1, i => by
    have := fitd_range own xs d (i + 1)
    unfold fitd; split <;> omega
theorem fitd_low (own : Int) (xs : List Int) : ∀ (d : Nat) (i : Int), i ≤ fitd own xs d i → rd xs (fitd own xs d i) ≤ own
  | 0, i => by unfold fitd; omega
  | d + 1, i => by
    unfold fitd; split
    · omega
    · intro h
      have hr := fitd_range own xs d (i + 1)
      by_cases h2 : i + 1 ≤ fitd own xs d (i + 1)
      · exact fitd_low own xs d (i + 1) h2
      · rw [show fitd own xs d (i + 1) = i from by omega]; omega
theorem fitd_high (own : Int) (xs : List Int) : ∀ (d : Nat) (i : Int), fitd own xs d i < i + d - 1 → rd xs (fitd own xs d i + 1) > own
  | 0, i => by unfold fitd; omega
  | d + 1, i => by
    unfold fitd; split
    · intro _; rw [show i - 1 + 1 = i from by omega]; assumption
    · intro h; exact fitd_high own xs d (i + 1) (by omega)
theorem fits_l (own : Int) (xs : List Int) (hl : xs.length ≤ 1000) (d : Nat) : ∀ (k : Nat) (i : Int), 0 ≤ i → (xs.length : Int) - i = d → d < k → split_Fits.l0 k own xs xs (xs.length : Int) i = some (fitd own xs d i) := by
  induction d with
  | zero =>
    intro k i h0 hd hk
    obtain ⟨k, rfl, hk⟩ := fuel hk
    simp only [split_Fits.l0, fitd]
    rw [if_neg (by omega), w64 (by omega) (by omega)]; congr 1; omega
  | succ d ih =>
    intro k i h0 hd hk
    obtain ⟨k, rfl, hk⟩ := fuel hk
    simp only [split_Fits.l0, fitd]
    rw [if_pos (by omega), if_pos h0, if_pos (by omega), w64 (n := i - 1) (by omega) (by omega), w64 (n := i + 1) (by omega) (by omega), ih k (i + 1) (by omega) (by omega) (by omega)]
    split <;> rfl
theorem fits_f (own : Int) (xs : List Int) (hl : xs.length ≤ 1000) {k : Nat} (hk : xs.length < k) : split_Fits.f k own xs = some (fitd own xs xs.length 0) := by
  unfold split_Fits.f
  exact fits_l own xs hl xs.length k 0 (by omega) (by omega) hk
theorem reffits_l (own : Int) (xs : List Int) (hl : xs.length ≤ 1000) (d : Nat) : ∀ (k : Nat) (i : Int), 0 ≤ i → (xs.length : Int) - i = d → d < k → terraceref21_Fits.l0 k own xs (i - 1) = some (fitd own xs d i) := by
  induction d with
  | zero =>
    intro k i h0 hd hk
    obtain ⟨k, rfl, hk⟩ := fuel hk
    simp only [terraceref21_Fits.l0, fitd]
    rw [w64 (by omega) (by omega), if_neg (by omega)]
  | succ d ih =>
    intro k i h0 hd hk
    obtain ⟨k, rfl, hk⟩ := fuel hk
    simp only [terraceref21_Fits.l0, fitd]
    have hh := ih k (i + 1) (by omega) (by omega) (by omega)
    rw [show i + 1 - 1 = i from by omega] at hh
    rw [w64 (n := i - 1 + 1) (by omega) (by omega), show i - 1 + 1 = i from by omega, if_pos (by omega), if_pos h0, hh]
    by_cases h : rd xs i > own
    · rw [if_pos h, if_neg (by omega)]
    · rw [if_neg h, if_pos (by omega)]
theorem reffits_f (own : Int) (xs : List Int) (hl : xs.length ≤ 1000) {k : Nat} (hk : xs.length < k) : terraceref21_Fits.f k own xs = some (fitd own xs xs.length 0) := by
  unfold terraceref21_Fits.f
  exact reffits_l own xs hl xs.length k 0 (by omega) (by omega) hk
theorem take_snoc (l : List Int) (i : Int) (h0 : 0 ≤ i) (h : i < l.length) : l.take i.toNat ++ [rd l i] = l.take (i + 1).toNat := by
  rw [show (i + 1).toNat = i.toNat + 1 from by omega, List.take_succ_eq_append_getElem (by omega)]
  unfold rd
  rw [List.getD_eq_getElem?_getD, List.getElem?_eq_getElem (by omega), Option.getD_some]
theorem loop (own : Int) (l : List Int) (hl : l.length ≤ 100) (d : Nat) : ∀ (k : Nat) (i : Int), 0 ≤ i → (l.length : Int) - i = d → d + 300 < k →
    terracelaw21_SplitFits.l0 k own l (l.take i.toNat) l (l.length : Int) i = some true := by
  induction d with
  | zero =>
    intro k i h0 hd hk
    obtain ⟨k, rfl, hk⟩ := fuel hk
    simp only [terracelaw21_SplitFits.l0]
    rw [if_neg (by omega), List.take_of_length_le (by omega), fits_f _ _ (by omega) (by omega), reffits_f _ _ (by omega) (by omega)]
    simp only [Option.bind_some, if_true]
    rw [awake_k (by omega)]; rfl
  | succ d ih =>
    intro k i h0 hd hk
    obtain ⟨k, rfl, hk⟩ := fuel hk
    simp only [terracelaw21_SplitFits.l0]
    rw [if_pos (by omega), if_pos h0, if_pos (by omega), if_pos (by have := List.length_take_le i.toNat l; omega), take_snoc l i h0 (by omega), w64 (by omega) (by omega)]
    exact ih k (i + 1) (by omega) (by omega) (by omega)
theorem SplitFits : terracelaw21_SplitFits.Pure := by
  intro own l ho _ _ hw
  obtain ⟨k, hk⟩ : ∃ k, 900 < k := ⟨901, by omega⟩
  refine ⟨k, ?_⟩
  unfold terracelaw21_SplitFits.f
  by_cases h : (l.length : Int) > 100
  · rw [if_pos h, awake_k (by omega)]; rfl
  · rw [if_neg h]
    have := loop own l (by omega) l.length k 0 (by omega) (by omega) (by omega)
    exact this

end Go.Proofs.Ythkeoioejombpaa.Pure
