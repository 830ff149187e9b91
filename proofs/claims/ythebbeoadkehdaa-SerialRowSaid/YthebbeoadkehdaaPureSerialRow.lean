/- Proved: along any steps forward, each less than half of the way round, each number is ahead of the next one, and the later one of both is that (for every input that the statement's guards let in; the Go function returns true and leaves its arguments as they were). -/
import Derived.Test.YthebbeoadkehdaaPSerialRowx1
import Derived.Test.YthebbeoadkehdaaWSized
set_option linter.unusedVariables false
set_option linter.unusedSimpArgs false
namespace Go.Proofs.Ythebbeoadkehdaa.PrintWords
open Go.ChangeShapes Go.WideShapes
theorem sized_ints {H : Type} {enc : TypeId × Value → H} {P : Program} {W : World} {base : Nat} {spare : Nat → Bool} {held : Bool} {t e : TypeId} {k : IntKind} {a : Option Addr} {len cap : Nat} {d : DataW H} {ps : List MemPlace} {ts : List TypeId} {ds : List (DataW H)} {j : Nat}
    (hsz : (DataW.weightsEach P ts ds).all (· ≤ reachBytes) = true) (ht : ts[j]? = some t) (hd : ds[j]? = some d) (hu : P.underlying t = some (.slice e)) (he : P.underlying e = some (.int k)) (hc : P.cellsOf e = 1) {B : Nat} (hB : P.bytesOf e = B)
    (h : DataW.Trod enc P W base spare held t (.slice a len cap) d ps) : len * B ≤ 140737488351232 :=
  Go.Proofs.YthebbeoadkehdaaW.PrintWords.sized_ints hsz ht hd hu he hc hB h
end Go.Proofs.Ythebbeoadkehdaa.PrintWords
namespace Go.Proofs.Ythebbeoadkehdaa.Pure
open Go.RowKit Go.Proofs.Ythebbeoadkehdaa.PSerialRow Go.Proofs.YthebbeoadkehdaaW.PrintWords Go.Proofs.YthebbeoadkehdaaW.PrintLast Go.Proofs.YthebbeoadkehdaaW.PrintMore

theorem wf_u8 {a : Int} (h : (Lit.int .u8 a).wf = true) : 0 ≤ a ∧ a ≤ 255 := by
  simpa [Lit.wf, IntKind.min, IntKind.max, IntKind.signed, IntKind.bits] using h
theorem wf_u16 {a : Int} (h : (Lit.int .u16 a).wf = true) : 0 ≤ a ∧ a ≤ 65535 := by
  simpa [Lit.wf, IntKind.min, IntKind.max, IntKind.signed, IntKind.bits] using h
theorem wf_u32 {a : Int} (h : (Lit.int .u32 a).wf = true) : 0 ≤ a ∧ a ≤ 4294967295 := by
  simpa [Lit.wf, IntKind.min, IntKind.max, IntKind.signed, IntKind.bits] using h
theorem wf_u64 {a : Int} (h : (Lit.int .u64 a).wf = true) : 0 ≤ a ∧ a ≤ 18446744073709551615 := by
  simpa [Lit.wf, IntKind.min, IntKind.max, IntKind.signed, IntKind.bits] using h
theorem wf_i64 {a : Int} (h : (Lit.int .i64 a).wf = true) : -9223372036854775808 ≤ a ∧ a ≤ 9223372036854775807 := by
  simpa [Lit.wf, IntKind.min, IntKind.max, IntKind.signed, IntKind.bits] using h
theorem w64 {n : Int} (h : -9223372036854775808 ≤ n) (h' : n ≤ 9223372036854775807) : wrap64 n = n := by
  unfold wrap64; omega
theorem fuel {k n : Nat} (h : n < k) : ∃ m, k = m + 1 ∧ n ≤ m := ⟨k - 1, by omega, by omega⟩
def gap (a b : Int) : Int := if (b - a) % 4294967296 = 2147483648 then 0 else if (b - a) % 4294967296 < 2147483648 then (b - a) % 4294967296 else (b - a) % 4294967296 - 4294967296
theorem gap_f (a b : Int) : serial_Gap.f a b = some (gap a b) := by
  unfold serial_Gap.f gap
  split
  · rfl
  · congr 1; unfold wrap64 wrap32; split <;> omega
theorem ahead_f (a b : Int) : serial_Ahead.f a b = some (decide (gap a b > 0)) := by
  unfold serial_Ahead.f; rw [gap_f]; rfl
theorem awake_k {k : Nat} (hk : 20 ≤ k) : terracelaw05_awake.f k = some true :=
  at_rounds (g := fun k => terracelaw05_awake.f k) (fun k => terracelaw05_awake.mono k) hk (by decide +kernel)
theorem later_f (a b : Int) : serial_Later.f a b = some (if gap a b > 0 then b else a) := by
  unfold serial_Later.f; rw [ahead_f]
  by_cases h : gap a b > 0 <;> simp [h]
theorem row (l : List Int) (hl : l.length ≤ 100) (hw : ∀ x ∈ l, (Lit.int .u16 x).wf = true) (d : Nat) : ∀ (k : Nat) (a i : Int), 0 ≤ i → i ≤ l.length → (l.length : Int) - i = d → d + 30 < k → terracelaw05_SerialRow.l0 k a l (l.length : Int) i = some true := by
  induction d with
  | zero =>
    intro k a i h0 h1 hd hk
    obtain ⟨k, rfl, hk⟩ := fuel hk
    simp only [terracelaw05_SerialRow.l0]; rw [if_neg (by omega), awake_k (by omega)]; rfl
  | succ d ih =>
    intro k a i h0 h1 hd hk
    obtain ⟨k, rfl, hk⟩ := fuel hk
    simp only [terracelaw05_SerialRow.l0]; rw [if_pos (by omega), if_pos h0, if_pos (by omega)]
    have hx : 0 ≤ rd l i ∧ rd l i ≤ 65535 := by
      unfold rd
      rw [List.getD_eq_getElem?_getD, List.getElem?_eq_getElem (by omega), Option.getD_some]
      exact wf_u16 (hw _ (List.getElem_mem _))
    rw [w64 (n := rd l i) (by omega) (by omega), w64 (n := rd l i + 1) (by omega) (by omega)]
    simp only [serial_Next.f, Option.bind_some]
    generalize hb : (a + (rd l i + 1) % 4294967296) % 4294967296 = b
    have g1 : gap a b > 0 := by unfold gap; rw [if_neg (by omega), if_pos (by omega)]; omega
    have g2 : ¬ gap b a > 0 := by
      unfold gap; rw [if_neg (by omega)]; split <;> omega
    rw [ahead_f, ahead_f, later_f, later_f, if_pos g1, if_neg g2]
    simp only [Option.bind_some, decide_eq_true_eq, g1, g2, if_true, if_false]
    rw [w64 (by omega) (by omega)]
    exact ih k b (i + 1) (by omega) (by omega) (by omega) (by omega)
theorem SerialRow : terracelaw05_SerialRow.Pure := by
  intro a l ha _ _ hw
  refine ⟨200, ?_⟩
  unfold terracelaw05_SerialRow.f
  by_cases h : (l.length : Int) > 100
  · rw [if_pos h, awake_k (by omega)]; rfl
  · rw [if_neg h]
    exact row l (by omega) hw l.length 200 a 0 (by omega) (by omega) (by omega) (by omega)

end Go.Proofs.Ythebbeoadkehdaa.Pure
