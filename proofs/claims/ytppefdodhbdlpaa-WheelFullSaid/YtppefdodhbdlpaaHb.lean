import Derived.Test.YtppefdodhbdlpaaHa
namespace Go.Proofs.Ytppefdodhbdlpaa.H
open Go.RowKit
set_option linter.unusedVariables false
set_option linter.unusedSimpArgs false
variable {w : World} {B g : Nat} {ks : Nat → Option Nat} {vs : Nat → Value} {S : Nat → List (Int × Int)} {now n : Int}
theorem idx_cases (id : Int) (xs : List (Int × Int)) : (∃ k, ∃ hk : k < xs.length, xs[k].1 = id ∧ idx id xs = k) ∨ (idx id xs = -1 ∧ ∀ t ∈ xs, t.1 ≠ id) := by
  unfold idx
  cases h : xs.findIdx? (fun t => t.1 == id) with
  | none =>
    rw [List.findIdx?_eq_none_iff] at h
    exact .inr ⟨rfl, fun t ht => by simpa using h t ht⟩
  | some k =>
    rw [List.findIdx?_eq_some_iff_getElem] at h
    obtain ⟨hk, h1, _⟩ := h
    exact .inl ⟨k, hk, by simpa using h1, rfl⟩
theorem fndFrom_cases (S : Nat → List (Int × Int)) (id : Int) : ∀ d i, i + d = 64 →
    (∃ i' k, i ≤ i' ∧ i' < 64 ∧ ∃ hk : k < (S i').length, (S i')[k].1 = id ∧ idx id (S i') = k ∧ fndFrom S id d i = ((i' : Int), (k : Int), true)) ∨ (fndFrom S id d i = (0, 0, false) ∧ ∀ j, i ≤ j → j < 64 → ∀ t ∈ S j, t.1 ≠ id)
  | 0, i, h => .inr ⟨rfl, fun j h1 h2 => by omega⟩
  | d + 1, i, h => by
    unfold fndFrom
    rcases idx_cases id (S i) with ⟨k, hk, h1, h2⟩ | ⟨h1, h2⟩
    · rw [if_pos (by omega)]
      exact .inl ⟨i, k, Nat.le_refl _, by omega, hk, h1, h2, by rw [h2]⟩
    · rw [if_neg (by omega)]
      rcases fndFrom_cases S id d (i + 1) (by omega) with ⟨i', k, h3, h4, hk, h5⟩ | ⟨h3, h4⟩
      · exact .inl ⟨i', k, by omega, h4, hk, h5⟩
      · refine .inr ⟨h3, fun j hj hj2 => ?_⟩
        by_cases e : j = i
        · subst e; exact h2
        · exact h4 j (by omega) hj2
theorem fnd_cases (S : Nat → List (Int × Int)) (id : Int) :
    (∃ i k, i < 64 ∧ ∃ hk : k < (S i).length, (S i)[k].1 = id ∧ idx id (S i) = k ∧ fnd S id = ((i : Int), (k : Int), true)) ∨ (fnd S id = (0, 0, false) ∧ ∀ j, j < 64 → ∀ t ∈ S j, t.1 ≠ id) := by
  rcases fndFrom_cases S id 64 0 rfl with ⟨i, k, _, h⟩ | ⟨h1, h2⟩
  · exact .inl ⟨i, k, h⟩
  · exact .inr ⟨h1, fun j hj => h2 j (Nat.zero_le _) hj⟩
theorem IsW.below (h : IsW w B g ks vs S now n) {W : World} (hb : Below w.heap.size w W) : IsW W B g ks vs S now n :=
  ⟨(hb.block g (Array.getElem?_eq_some_iff.1 h.hg).1).trans h.hg, h.hB, fun i hi => (h.rows i hi).below hb, h.ne⟩
theorem Row.some_ {v : Value} {xs : List (Int × Int)} {k : Option Nat} (h : Row w B v xs k) {j : Nat} (hj : j < xs.length) : ∃ b cap, k = some b ∧ v = .slice (some ⟨b, 0, none⟩) xs.length cap := by
  cases k with
  | none => obtain ⟨_, rfl⟩ := h; simp at hj
  | some b => obtain ⟨cap, cs, rfl, _⟩ := h; exact ⟨b, cap, rfl, rfl⟩
set_option maxHeartbeats 2000000 in
set_option maxRecDepth 100000 in
theorem get_no (h : IsW w B g ks vs S now n) (id : Int) (hf : fnd S id = (0, 0, false)) :
    Calls Try.prog 13 #[.pointer (some ⟨g, 0, none⟩), .int .i64 id] w fun e w' => e = .returned (.tuple #[.int .i64 0, .bool false]) ∧ Below w.heap.size w w' := by
  have hcall := find_c h id
  rw [hf] at hcall
  clear h hf
  go_enter Try.func13, Try.ntmps13
  go_wp2_with (go_at_call 26; refine hcall.mono ?_; rintro e w' ⟨rfl, hb'⟩)
  go_ret2
  exact ⟨rfl, hb'⟩
set_option maxHeartbeats 2000000 in
set_option maxRecDepth 100000 in
theorem get_yes (h : IsW w B g ks vs S now n) (id : Int) {i k : Nat} (hi : i < 64) (hk : k < (S i).length) (hf : fnd S id = ((i : Int), (k : Int), true)) :
    Calls Try.prog 13 #[.pointer (some ⟨g, 0, none⟩), .int .i64 id] w fun e w' => e = .returned (.tuple #[.int .i64 (S i)[k].2, .bool true]) ∧ Below w.heap.size w w' := by
  have hcall := find_c h id
  rw [hf] at hcall
  have hia := fun W => run_indexAt64 g i hi W
  obtain ⟨b, cap, e1, e2⟩ := (h.rows i hi).some_ hk
  have hr := h.rows i hi
  rw [e1] at hr
  have hbl := hr.lt
  have hc1 : Hid (w.cell? ⟨g, i, none⟩ = some (.slice (some ⟨b, 0, none⟩) (S i).length cap)) := Lib.hid ((h.c hi).trans (by rw [e2]))
  have hc2 : Hid (w.cell? ⟨b, k * 2 + 1, none⟩ = some (.int .i64 (S i)[k].2)) := Lib.hid (hr.at_ hk).2
  have hgl : g < w.heap.size := (Array.getElem?_eq_some_iff.1 h.hg).1
  obtain ⟨x, hx⟩ : ∃ x, Hid ((S i)[k].2 = x) := ⟨_, Lib.hid rfl⟩
  rw [hx.out] at hc2 ⊢
  obtain ⟨m, hm⟩ : ∃ m, Hid ((S i).length = m) := ⟨_, Lib.hid rfl⟩
  rw [hm.out] at hc1
  have hkm : (k : Int) < (m : Int) := by rw [← hm.out]; omega
  dsimp only at hcall
  clear h hf hr e1 e2
  go_enter Try.func13, Try.ntmps13
  go_wp2_with (go_at_call 26; refine hcall.mono ?_; rintro e w' ⟨rfl, hb'⟩; have hd1 := (hb'.cell (p := ⟨g, i, none⟩) hgl).trans hc1.out; have hd2 := (hb'.cell (p := ⟨b, k * 2 + 1, none⟩) hbl).trans hc2.out)
  go_ret2
  exact ⟨rfl, hb'⟩
end Go.Proofs.Ytppefdodhbdlpaa.H
