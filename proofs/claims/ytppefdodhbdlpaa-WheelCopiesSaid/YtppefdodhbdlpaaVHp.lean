import Derived.Test.YtppefdodhbdlpaaVHd
namespace Go.Proofs.Ytppefdodhbdlpaa.H
set_option linter.unusedVariables false
set_option linter.unusedSimpArgs false
theorem ordI_lt (a b : Int × Int) : ordI a b < 0 ↔ (a.2 < b.2 ∨ a.2 = b.2 ∧ a.1 < b.1) := by
  unfold ordI cmpI
  split <;> (repeat' split) <;> omega
theorem ordI_trans {a b c : Int × Int} (h : ordI a b < 0) (h2 : ordI b c < 0) : ordI a c < 0 := by rw [ordI_lt] at *; omega
theorem ordI_tri {a b : Int × Int} (h : ¬ ordI a b < 0) (hne : a.1 ≠ b.1) : ordI b a < 0 := by rw [ordI_lt] at *; omega
theorem ordI_irr (a : Int × Int) : ¬ ordI a a < 0 := by rw [ordI_lt]; omega
theorem ordI_not_trans {a b c : Int × Int} (h : ordI a b < 0) (h2 : ¬ ordI a c < 0) : ¬ ordI b c < 0 := by rw [ordI_lt] at *; omega
def ltB (a b : Int × Int) : Bool := decide (ordI a b < 0)
def spoke (m : List (Int × Int)) (i : Nat) : List (Int × Int) := m.filter (fun t => decide (t.2 % 64 = (i : Int)))
def ins (m : List (Int × Int)) (t : Int × Int) : List (Int × Int) := m.filter (fun x => ltB x t) ++ t :: m.filter (fun x => !ltB x t)
def del (m : List (Int × Int)) (id : Int) : List (Int × Int) := m.filter (fun x => x.1 != id)
def Sorted (m : List (Int × Int)) : Prop := m.Pairwise (fun a b => ordI a b < 0)
structure Good (m : List (Int × Int)) : Prop where
  sorted : Sorted m
  ids : m.Pairwise (fun a b => a.1 ≠ b.1)
  rng : ∀ t ∈ m, 0 ≤ t.2 ∧ t.2 ≤ 2199023255552
  len : m.length ≤ 1024
theorem good_nil : Good [] := ⟨.nil, .nil, fun t h => (by cases h), by simp⟩
theorem split_at (t : Int × Int) : ∀ (xs : List (Int × Int)), Sorted xs → ∃ p, p ≤ xs.length ∧ xs.take p = xs.filter (fun x => ltB x t) ∧ xs.drop p = xs.filter (fun x => !ltB x t) ∧ (∀ j (hj : j < xs.length), j < p → ordI xs[j] t < 0) ∧ (∀ j (hj : j < xs.length), p ≤ j → ¬ ordI xs[j] t < 0)
  | [], _ => ⟨0, by simp⟩
  | x :: xs, h => by
    obtain ⟨h1, h2⟩ := List.pairwise_cons.1 h
    by_cases hx : ordI x t < 0
    · obtain ⟨p, a, b, c, d, e⟩ := split_at t xs h2
      have hb : ltB x t = true := decide_eq_true hx
      refine ⟨p + 1, by simpa using a, by simp [hb, b], by simp [hb, c], fun j hj hjp => ?_, fun j hj hjp => ?_⟩
      · cases j with
        | zero => exact hx
        | succ j => exact d j (by simpa using hj) (by omega)
      · cases j with
        | zero => omega
        | succ j => exact e j (by simpa using hj) (by omega)
    · have hall : ∀ y ∈ x :: xs, ¬ ordI y t < 0 := fun y hy => by
        rcases List.mem_cons.1 hy with rfl | hy
        · exact hx
        · exact ordI_not_trans (h1 y hy) hx
      refine ⟨0, by simp, ?_, ?_, fun j hj hjp => by omega, fun j hj _ => hall _ (List.getElem_mem hj)⟩
      · rw [List.take_zero]; symm; rw [List.filter_eq_nil_iff]; intro y hy; simp [ltB, hall y hy]
      · rw [List.drop_zero]; symm; rw [List.filter_eq_self]; intro y hy; simp [ltB, hall y hy]
theorem split_sorted {xs : List (Int × Int)} (h : Sorted xs) (t : Int × Int) : xs.filter (fun x => ltB x t) ++ xs.filter (fun x => !ltB x t) = xs := by
  obtain ⟨p, _, b, c, _⟩ := split_at t xs h
  rw [← b, ← c, List.take_append_drop]
theorem Sorted.spoke {m : List (Int × Int)} (h : Sorted m) (i : Nat) : Sorted (spoke m i) := List.Pairwise.filter _ h
theorem filter_comm {α : Type} (p q : α → Bool) (l : List α) : (l.filter p).filter q = (l.filter q).filter p := by
  rw [List.filter_filter, List.filter_filter]; congr 1; funext x; exact Bool.and_comm _ _
theorem spoke_ins {m : List (Int × Int)} (h : Sorted m) (t : Int × Int) (i : Nat) : spoke (ins m t) i = if t.2 % 64 = (i : Int) then ins (spoke m i) t else spoke m i := by
  unfold ins spoke
  rw [List.filter_append, List.filter_cons, filter_comm, filter_comm (fun x => !ltB x t)]
  split
  · rename_i hi; rw [if_pos (by simpa using hi)]
  · rename_i hi
    rw [if_neg (by simpa using hi)]
    exact split_sorted (h.spoke i) t
theorem mem_ins {m : List (Int × Int)} {t x : Int × Int} : x ∈ ins m t ↔ x ∈ m ∨ x = t := by
  unfold ins
  rw [List.mem_append, List.mem_cons, List.mem_filter, List.mem_filter]
  cases ltB x t <;> simp [or_comm]
theorem length_ins {m : List (Int × Int)} (h : Sorted m) (t : Int × Int) : (ins m t).length = m.length + 1 := by
  have := congrArg List.length (split_sorted h t)
  unfold ins
  rw [List.length_append] at this ⊢
  rw [List.length_cons]; omega
theorem good_ins {m : List (Int × Int)} (h : Good m) {t : Int × Int} (hid : ∀ x ∈ m, x.1 ≠ t.1) (h0 : 0 ≤ t.2) (h1 : t.2 ≤ 2199023255552) (hl : m.length < 1024) : Good (ins m t) := by
  refine ⟨?_, ?_, fun x hx => ?_, by rw [length_ins h.sorted]; omega⟩
  · unfold ins Sorted
    rw [List.pairwise_append]
    refine ⟨List.Pairwise.filter _ h.sorted, List.pairwise_cons.2 ⟨fun x hx => ?_, List.Pairwise.filter _ h.sorted⟩, fun x hx y hy => ?_⟩
    · rw [List.mem_filter] at hx
      exact ordI_tri (by simpa [ltB] using hx.2) (hid x hx.1)
    · rw [List.mem_filter] at hx
      have hxt : ordI x t < 0 := by simpa [ltB] using hx.2
      rcases List.mem_cons.1 hy with rfl | hy
      · exact hxt
      · rw [List.mem_filter] at hy
        exact ordI_trans hxt (ordI_tri (by simpa [ltB] using hy.2) (hid y hy.1))
  · have hp : (ins m t).Perm (t :: m) := by
      unfold ins
      refine List.perm_middle.trans (List.Perm.cons _ ?_)
      rw [split_sorted h.sorted]
    rw [hp.pairwise_iff (fun {a b} hab => Ne.symm hab)]
    exact List.pairwise_cons.2 ⟨fun x hx => Ne.symm (hid x hx), h.ids⟩
  · rcases mem_ins.1 hx with hx | rfl
    · exact h.rng x hx
    · exact ⟨h0, h1⟩
theorem Good.filter {m : List (Int × Int)} (h : Good m) (p : Int × Int → Bool) : Good (m.filter p) :=
  ⟨List.Pairwise.filter _ h.sorted, List.Pairwise.filter _ h.ids, fun t ht => h.rng t (List.mem_filter.1 ht).1, Nat.le_trans (List.length_filter_le _ _) h.len⟩
theorem Good.tail {t : Int × Int} {m : List (Int × Int)} (h : Good (t :: m)) : Good m :=
  ⟨(List.pairwise_cons.1 h.sorted).2, (List.pairwise_cons.1 h.ids).2, fun x hx => h.rng x (List.mem_cons_of_mem _ hx), by have := h.len; simp at this; omega⟩
theorem ids_uniq : ∀ {m : List (Int × Int)}, m.Pairwise (fun a b => a.1 ≠ b.1) → ∀ {a b : Int × Int}, a ∈ m → b ∈ m → a.1 = b.1 → a = b
  | x :: m, h, a, b, ha, hb, e => by
    obtain ⟨h1, h2⟩ := List.pairwise_cons.1 h
    rcases List.mem_cons.1 ha with rfl | ha <;> rcases List.mem_cons.1 hb with rfl | hb
    · rfl
    · exact absurd e (h1 b hb)
    · exact absurd e.symm (h1 _ ‹_›)
    · exact ids_uniq h2 ha hb e
theorem erase_ids (id : Int) : ∀ (xs : List (Int × Int)), xs.Pairwise (fun a b => a.1 ≠ b.1) → ∀ (k : Nat) (hk : k < xs.length), xs[k].1 = id → xs.eraseIdx k = xs.filter (fun x => x.1 != id)
  | x :: xs, h, 0, _, e => by
    obtain ⟨h1, h2⟩ := List.pairwise_cons.1 h
    have e' : x.1 = id := e
    rw [List.eraseIdx_cons_zero, List.filter_cons_of_neg (by simp [e'])]
    symm; rw [List.filter_eq_self]; intro y hy
    have := h1 y hy
    simp; intro e2; exact this (by rw [e', e2])
  | x :: xs, h, k + 1, hk, e => by
    obtain ⟨h1, h2⟩ := List.pairwise_cons.1 h
    have hk' : k < xs.length := by simpa using hk
    have e' : xs[k].1 = id := e
    have hx : x.1 ≠ id := fun e2 => h1 _ (List.getElem_mem hk') (by rw [e2, e'])
    rw [List.eraseIdx_cons_succ, List.filter_cons_of_pos (by simpa using hx), erase_ids id xs h2 k hk' e']
theorem length_erase_ids {id : Int} {xs : List (Int × Int)} (h : xs.Pairwise (fun a b => a.1 ≠ b.1)) {x : Int × Int} (hx : x ∈ xs) (e : x.1 = id) : (xs.filter (fun x => x.1 != id)).length = xs.length - 1 := by
  obtain ⟨k, hk, rfl⟩ := List.getElem_of_mem hx
  rw [← erase_ids id xs h k hk e, List.length_eraseIdx, if_pos hk]
theorem mem_spoke {m : List (Int × Int)} {i : Nat} {x : Int × Int} : x ∈ spoke m i ↔ x ∈ m ∧ x.2 % 64 = (i : Int) := by
  unfold spoke; rw [List.mem_filter]; simp
theorem spoke_del {m : List (Int × Int)} (h : Good m) {id : Int} {i k : Nat} (hk : k < (spoke m i).length) (e : (spoke m i)[k].1 = id) (j : Nat) :
    spoke (del m id) j = if j = i then (spoke m i).eraseIdx k else spoke m j := by
  unfold del
  rw [show spoke (m.filter (fun x => x.1 != id)) j = (spoke m j).filter (fun x => x.1 != id) from filter_comm _ _ _]
  split
  · rename_i hj; subst hj
    exact (erase_ids id _ (List.Pairwise.filter _ h.ids) k hk e).symm
  · rename_i hj
    rw [List.filter_eq_self]
    intro x hx
    have hm := mem_spoke.1 (List.getElem_mem hk)
    have hx2 := mem_spoke.1 hx
    have : x.1 ≠ id := fun e2 => by
      have := ids_uniq h.ids hx2.1 hm.1 (by rw [e2, e])
      rw [← this, hx2.2] at hm
      exact hj (by omega)
    simpa using this
theorem spoke_cases (t : Int × Int) (h : 0 ≤ t.2) : ∃ i : Nat, i < 64 ∧ t.2 % 64 = (i : Int) := ⟨(t.2 % 64).toNat, by omega, by omega⟩
theorem spoke_cons (t : Int × Int) (r : List (Int × Int)) (i : Nat) : spoke (t :: r) i = if t.2 % 64 = (i : Int) then t :: spoke r i else spoke r i := by
  unfold spoke; rw [List.filter_cons]
  by_cases h : t.2 % 64 = (i : Int) <;> simp [h]
theorem hd_mem {xs : List (Int × Int)} (h : xs.length ≠ 0) : hd xs ∈ xs := by
  cases xs with
  | nil => simp at h
  | cons x xs => simp [hd]
theorem fstFrom_spec (S : Nat → List (Int × Int)) : ∀ d i (best : Int), i + d = 64 → (best = -1 ∧ (∀ j, j < i → (S j).length = 0) ∨ ∃ b : Nat, best = b ∧ b < i ∧ (S b).length ≠ 0 ∧ ∀ j, j < i → (S j).length ≠ 0 → ¬ ordI (hd (S j)) (hd (S b)) < 0) →
    (fstFrom S d i best = -1 ∧ (∀ j, j < 64 → (S j).length = 0) ∨ ∃ b : Nat, fstFrom S d i best = b ∧ b < 64 ∧ (S b).length ≠ 0 ∧ ∀ j, j < 64 → (S j).length ≠ 0 → ¬ ordI (hd (S j)) (hd (S b)) < 0)
  | 0, i, best, hi, h => by
    obtain rfl : i = 64 := by omega
    exact h
  | d + 1, i, best, hi, h => by
    unfold fstFrom
    refine fstFrom_spec S d (i + 1) _ (by omega) ?_
    unfold better
    by_cases h0 : (S i).length = 0
    · rw [h0]
      simp only [bne_self_eq_false, Bool.false_and, Bool.false_eq_true, if_false]
      rcases h with ⟨e, h⟩ | ⟨b, e, hb, hb0, h⟩
      · exact .inl ⟨e, fun j hj => by by_cases ej : j = i; (subst ej; exact h0); exact h j (by omega)⟩
      · exact .inr ⟨b, e, by omega, hb0, fun j hj hj0 => by by_cases ej : j = i; (subst ej; exact absurd h0 hj0); exact h j (by omega) hj0⟩
    · rcases h with ⟨e, h⟩ | ⟨b, e, hb, hb0, h⟩
      · subst e
        rw [if_pos (by simp [h0])]
        exact .inr ⟨i, rfl, by omega, h0, fun j hj hj0 => by by_cases ej : j = i; (subst ej; exact ordI_irr _); exact absurd (h j (by omega)) hj0⟩
      · subst e
        by_cases hlt : ordI (hd (S i)) (hd (S b)) < 0
        · rw [if_pos (by simp [h0, hlt])]
          exact .inr ⟨i, rfl, by omega, h0, fun j hj hj0 => by
            by_cases ej : j = i
            · subst ej; exact ordI_irr _
            · exact fun h2 => h j (by omega) hj0 (ordI_trans h2 hlt)⟩
        · rw [if_neg (by simp [h0, hlt])]
          exact .inr ⟨b, rfl, by omega, hb0, fun j hj hj0 => by by_cases ej : j = i; (subst ej; exact hlt); exact h j (by omega) hj0⟩
theorem fst_nil : fst (spoke []) = -1 := by
  rcases fstFrom_spec (spoke []) 64 0 (-1) rfl (.inl ⟨rfl, fun j hj => by omega⟩) with ⟨e, _⟩ | ⟨b, _, _, h, _⟩
  · exact e
  · simp [spoke] at h
theorem fst_cons {t : Int × Int} {r : List (Int × Int)} (h : Good (t :: r)) {i : Nat} (hi : i < 64) (ht : t.2 % 64 = (i : Int)) : fst (spoke (t :: r)) = i := by
  have hsp : spoke (t :: r) i = t :: spoke r i := by rw [spoke_cons, if_pos ht]
  rcases fstFrom_spec (spoke (t :: r)) 64 0 (-1) rfl (.inl ⟨rfl, fun j hj => by omega⟩) with ⟨e, h0⟩ | ⟨b, e, hb, hb0, h0⟩
  · have := h0 i hi; rw [hsp] at this; simp at this
  · have h1 := h0 i hi (by rw [hsp]; simp)
    rw [hsp] at h1
    have hm := mem_spoke.1 (hd_mem hb0)
    rcases List.mem_cons.1 hm.1 with he | hr
    · rw [he, ht] at hm
      show fstFrom _ 64 0 (-1) = _
      rw [e]; omega
    · exact absurd ((List.pairwise_cons.1 h.sorted).1 _ hr) h1
end Go.Proofs.Ytppefdodhbdlpaa.H
