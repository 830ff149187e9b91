import Derived.Test.YtppefdodhbdlpaaWWords
import Derived.ProofKit
import Derived.Deep.Slices
/-! What reads as data is a value of a kind: whole numbers, bools, slices, and (by the kind's own text) structs. -/
namespace Go.Proofs.Ytppefdodhbdlpaa.Rd
open Go.RowKit Go.Proofs.YtppefdodhbdlpaaW.PrintWords Go.ChangeShapes Go.WideShapes
def Rds (P : Program) (t : TypeId) {α : Type} (d : Kd α) (ok : α → Prop) : Prop :=
  ∀ (H : Type) (enc : TypeId × Value → H) (w : World) (base : Nat) (spare : Nat → Bool) (held : Bool) (fuel : Nat) (cs : List Value) (x : DataW H × List MemPlace),
    DataW.trod enc P w base spare held fuel t cs = some x → ∃ v, d.K w v cs ∧ ok v
theorem rds_int {P : Program} {t : TypeId} {k : IntKind} (ht : P.underlying t = some (.int k)) : Rds P t (Kd.int k) (fun n => (Lit.int k n).wf = true) := by
  intro H enc w base spare held fuel cs x h
  obtain ⟨n, rfl, _, hw⟩ := DataW.trod_int ht h
  exact ⟨n, rfl, hw⟩
theorem rds_bool {P : Program} {t : TypeId} (ht : P.underlying t = some .bool) : Rds P t Kd.bool (fun _ => True) := by
  intro H enc w base spare held fuel cs x h
  obtain ⟨b, rfl, _⟩ := DataW.trod_bool ht h
  exact ⟨b, rfl, trivial⟩
/-- one list for all indexes -/
theorem list_of {α : Type} (p : Nat → α → Prop) : ∀ n, (∀ i, i < n → ∃ v, p i v) → ∃ l : List α, l.length = n ∧ ∀ i v, l[i]? = some v → p i v
  | 0, _ => ⟨[], rfl, fun i v h => by simp at h⟩
  | n + 1, h => by
    obtain ⟨l, hl, hp⟩ := list_of p n (fun i hi => h i (by omega))
    obtain ⟨v, hv⟩ := h n (by omega)
    refine ⟨l ++ [v], by simp [hl], fun i u hu => ?_⟩
    by_cases hi : i < n
    · rw [List.getElem?_append_left (by omega)] at hu
      exact hp i u hu
    · have hlt := (List.getElem?_eq_some_iff.1 hu).1
      have : i = n := by simp [hl] at hlt; omega
      subst this
      rw [List.getElem?_append_right (by omega), hl, Nat.sub_self] at hu
      have : v = u := by simpa using hu
      exact this ▸ hv
theorem C_of {α : Type} {P : Program} {t e : TypeId} {d : Kd α} {ok : α → Prop} (hel : Rds P e d ok) (hsz : P.cellsOf e = d.sz) (ht : P.underlying t = some (.slice e)) {H : Type} {enc : TypeId × Value → H} {w : World} {base : Nat} {spare : Nat → Bool} {held : Bool} {fuel : Nat} {a : Option Addr} {len cap : Nat} {x : DataW H × List MemPlace}
    (h : DataW.trod enc P w base spare held fuel t [.slice a len cap] = some x) : ∃ l : List α, l.length = len ∧ d.C w a len l ∧ len ≤ cap ∧ len ≤ maxLen ∧ ∀ y ∈ l, ok y := by
  rcases Go.Deep.open_slice ht h with ⟨hcs, _⟩ | ⟨a', len', cap', m, n, D, Pl, hcs, hb, hl, hm, hmm, hx, hel'⟩
  · simp at hcs
    obtain ⟨rfl, rfl, rfl⟩ := hcs
    exact ⟨[], rfl, ⟨rfl, by omega, fun h => absurd h (by omega)⟩, by omega, by unfold maxLen; omega, fun y hy => by cases hy⟩
  · simp at hcs
    obtain ⟨rfl, rfl, rfl⟩ := hcs
    have hlm : len ≤ m := by rw [hmm]; split <;> omega
    obtain ⟨l, hll, hp⟩ := list_of (fun i v => ∃ cs', w.cells? base (a'.add (i * P.cellsOf e)) (P.cellsOf e) = some cs' ∧ d.K w v cs' ∧ ok v) len (fun i hi => by
      obtain ⟨cs', h1, h2⟩ := hel' i (by omega)
      obtain ⟨v, h3, h4⟩ := hel H enc w base spare held n cs' _ h2
      exact ⟨v, cs', h1, h3, h4⟩)
    refine ⟨l, hll, ⟨hll, by unfold maxLen at hm; omega, fun _ => ⟨a', rfl, fun j p hj => ?_⟩⟩, hl, by omega, fun y hy => ?_⟩
    · obtain ⟨cs', h1, h2, _⟩ := hp j p hj
      obtain ⟨_, h4, h5⟩ := World.cells?_some h1
      refine ⟨cs', d.K_len h2, h2, fun i u hu => ?_⟩
      have hi := (List.getElem?_eq_some_iff.1 hu).1
      have := h5 i (by omega)
      rw [Go.Deep.add_add, hsz] at this
      rw [this]; exact hu
    · obtain ⟨i, hi⟩ := List.getElem?_of_mem hy
      obtain ⟨_, _, _, h3⟩ := hp i y hi
      exact h3
theorem rds_slice {α : Type} {P : Program} {t e : TypeId} {d : Kd α} {ok : α → Prop} (hel : Rds P e d ok) (hsz : P.cellsOf e = d.sz) (ht : P.underlying t = some (.slice e)) : Rds P t (Kd.slice e d) (fun l => l.length ≤ maxLen ∧ ∀ y ∈ l, ok y) := by
  intro H enc w base spare held fuel cs x h
  obtain ⟨a, len, cap, rfl⟩ : ∃ a l c, cs = [.slice a l c] := by
    rcases Go.Deep.open_slice ht h with ⟨hcs, _⟩ | ⟨a', len', cap', m, n, D, Pl, hcs, _⟩
    · exact ⟨_, _, _, hcs⟩
    · exact ⟨_, _, _, hcs⟩
  obtain ⟨l, hl, hc, hle, hm, ho⟩ := C_of hel hsz ht h
  subst hl
  exact ⟨l, ⟨a, cap, rfl, hle, hc⟩, hm, ho⟩
end Go.Proofs.Ytppefdodhbdlpaa.Rd
