import Derived.Test.YtppefdodhbdlpaaHj
namespace Go.Proofs.Ytppefdodhbdlpaa.H
open Go.RowKit Go.Shelf
set_option linter.unusedVariables false
set_option linter.unusedSimpArgs false
variable {w : World} {B g : Nat} {ks : Nat → Option Nat} {vs : Nat → Value} {S : Nat → List (Int × Int)} {now n : Int}
/-- what may have turned: the blocks of T, and new ones -/
structure Turned (w w' : World) (T : Nat → Prop) : Prop where
  os : w'.os = w.os
  tape : w'.tape = w.tape
  output : w'.output = w.output
  size : w.heap.size ≤ w'.heap.size
  block : ∀ k, k < w.heap.size → ¬ T k → w'.heap[k]? = w.heap[k]?
theorem Turned.trans {w w1 w2 : World} {T T2 : Nat → Prop} (h : Turned w w1 T) (h2 : Turned w1 w2 T2) (hT : ∀ k, T2 k → T k ∨ w.heap.size ≤ k) : Turned w w2 T :=
  ⟨h2.os.trans h.os, h2.tape.trans h.tape, h2.output.trans h.output, Nat.le_trans h.size h2.size, fun k hk hn =>
    (h2.block k (Nat.lt_of_lt_of_le hk h.size) (fun h3 => (hT k h3).elim hn (fun h4 => by omega))).trans (h.block k hk hn)⟩
theorem Turned.of_below {w w' : World} {T : Nat → Prop} (h : Below w.heap.size w w') : Turned w w' T := ⟨h.os, h.tape, h.output, h.size, fun k hk _ => h.block k hk⟩
theorem Turned.of_grown {w w' : World} {b : Option Nat} (h : w.grownBy w' b) : Turned w w' (fun k => some k = b) := ⟨h.os, h.tape, h.output, h.size, fun k hk hn => h.block k hk hn⟩
theorem Turned.mono {w w' : World} {T T2 : Nat → Prop} (h : Turned w w' T) (hT : ∀ k, T k → T2 k) : Turned w w' T2 := ⟨h.os, h.tape, h.output, h.size, fun k hk hn => h.block k hk (fun h2 => hn (hT k h2))⟩
theorem Turned.below {w w' : World} {T : Nat → Prop} {B : Nat} (h : Turned w w' T) (hT : ∀ k, T k → B ≤ k) (hB : B ≤ w.heap.size) : Below B w w' := ⟨h.os, h.tape, h.output, h.size, fun k hk => h.block k (by omega) (fun h2 => by have := hT k h2; omega)⟩
theorem Row.turned {w w' : World} {v : Value} {xs : List (Int × Int)} {k : Option Nat} {T : Nat → Prop} (h : Row w B v xs k) (ht : Turned w w' T) (hk : ∀ b, k = some b → ¬ T b) : Row w' B v xs k := by
  cases k with
  | none => exact h
  | some b =>
    obtain ⟨cap, cs, rfl, hB, hb', r⟩ := h
    exact ⟨cap, cs, rfl, hB, (ht.block b (Array.getElem?_eq_some_iff.1 hb').1 (hk b rfl)).trans hb', r⟩
theorem setCell_heap {w : World} {b i : Nat} {cs : Array Value} {t : TypeId} {u : Value} (h : w.heap[b]? = some (.cells cs t (0, 0))) : (w.setCell ⟨b, i, none⟩ u).heap[b]? = some (.cells (cs.setIfInBounds i u) t (0, 0)) := by
  rw [setCell_eq_setRow w b i cs t (0, 0) u h]; exact setRow_heap w b cs _ t (0, 0) h
theorem wcells_set (vs : Nat → Value) (now n : Int) {i : Nat} (hi : i < 64) (u : Value) : (wcells vs now n).set i u = wcells (fun j => if j = i then u else vs j) now n := by
  unfold wcells
  rw [List.set_append_left _ _ (by simpa using hi)]
  congr 1
  apply List.ext_getElem
  · simp
  · intro j h1 h2
    simp at h1 h2 ⊢
    rw [List.getElem_set]
    by_cases e : i = j
    · simp [e]
    · simp [e, Ne.symm e]
theorem wcells_set_n (vs : Nat → Value) (now n m : Int) : (wcells vs now n).set 65 (.int .i64 m) = wcells vs now m := by
  unfold wcells
  rw [List.set_append_right _ _ (by simp)]
  simp
end Go.Proofs.Ytppefdodhbdlpaa.H
