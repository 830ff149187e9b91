import Derived.Test.YtppefdodhbdlpaaHg
import Derived.Deep.RegionLaw
namespace Go.Proofs.Ytppefdodhbdlpaa.H
open Go.RowKit Go.Shelf
set_option linter.unusedVariables false
set_option linter.unusedSimpArgs false
variable {w : World} {B g : Nat} {ks : Nat → Option Nat} {vs : Nat → Value} {S : Nat → List (Int × Int)} {now n : Int}
theorem setRow_below_other {b : Nat} {cs : Array Value} (w : World) : w.grownBy (w.setRow b cs) (some b) :=
  ⟨rfl, rfl, rfl, by simp [World.setRow], fun k hk hn => setRow_other w b k cs (fun e => hn (by rw [e]))⟩
set_option maxHeartbeats 4000000 in
set_option maxRecDepth 100000 in
theorem insert_room {xs : List (Int × Int)} {b cap : Nat} (h : Row w B (.slice (some ⟨b, 0, none⟩) xs.length cap) xs (some b)) {i : Nat} (hi : i < xs.length) (x : Int × Int) (q : Nat)
    (hq : w.heap[q]? = some (.cells #[.int .i64 x.1, .int .i64 x.2] 54 (0, 0))) (hqb : q ≠ b) (hroom : xs.length < cap) (hlen : xs.length < 1048576) :
    Calls Try.prog 33 #[.slice (some ⟨b, 0, none⟩) xs.length cap, .int .i64 i, .slice (some ⟨q, 0, none⟩) 1 1] w (InsPost w B (xs.take i ++ x :: xs.drop i) (some b)) := by
  obtain ⟨cap2, cs, h1, hB, hb, hsz, hl, hm, hf, h2⟩ := h
  obtain rfl : cap = cap2 := by simp at h1; exact h1
  clear h1 hl
  have hLl : cs.toList.length = cap * 2 := by simpa using hsz
  have hc1l := c1_len hLl hi hroom
  have hc2 := c2_eq x hLl hi hroom hf
  have hfl : (flat (xs.drop i)).length = (xs.length - i) * 2 := by rw [flat_len, List.length_drop]
  -- the first copy
  have hcp1 : ∀ ty dc sc, (Builtin.copy_ #[47, 47] ty #[.slice (some ⟨b, (i + 1) * 2, none⟩) (xs.length + 1 - (i + 1)) dc, .slice (some ⟨b, i * 2, none⟩) (xs.length + 1 - i) sc]).run Try.prog w.drew = .ok (goInt ((xs.length - i : Nat) : Int)) (w.drew.setRow b (c1_ cs.toList xs i).toArray) := fun ty dc sc => by
    have hmin : Nat.min (xs.length + 1 - i) (xs.length + 1 - (i + 1)) = xs.length - i := by simp only [Nat.min_def]; split <;> omega
    have := run_copy2 w.drew ty b ((i + 1) * 2) (xs.length + 1 - (i + 1)) dc ⟨b, i * 2, none⟩ (xs.length + 1 - i) sc cs (flat (xs.drop i)) hb (by rw [hfl, hmin])
      (fun j u hj => by
        have hjl : j < (xs.length - i) * 2 := by have := (List.getElem?_eq_some_iff.1 hj).1; omega
        rw [Addr.add_mid, cell_of_row w.drew b _ cs 54 (0, 0) hb]
        rw [← flat_drop, ← hf, List.getElem?_drop, List.getElem?_take, if_pos (by omega)] at hj
        simpa using hj)
      (by rw [hfl, hsz]; omega) (oneCell_flat _)
    rw [hmin] at this
    exact this
  have hb1 : (w.drew.setRow b (c1_ cs.toList xs i).toArray).heap[b]? = some (.cells (c1_ cs.toList xs i).toArray 54 (0, 0)) := setRow_heap w.drew b cs _ 54 (0, 0) hb
  have hq1 : (w.drew.setRow b (c1_ cs.toList xs i).toArray).heap[q]? = some (.cells #[.int .i64 x.1, .int .i64 x.2] 54 (0, 0)) := (setRow_other w.drew b q _ hqb).trans hq
  obtain ⟨W1, hW1⟩ : ∃ W1, W1 = w.drew.setRow b (c1_ cs.toList xs i).toArray := ⟨_, rfl⟩
  rw [← hW1] at hcp1 hb1 hq1
  have hcp2 : ∀ ty dc, (Builtin.copy_ #[47, 47] ty #[.slice (some ⟨b, i * 2, none⟩) (xs.length + 1 - i) dc, .slice (some ⟨q, 0, none⟩) 1 1]).run Try.prog W1 = .ok (goInt ((1 : Nat) : Int)) (W1.setRow b (c2_ cs.toList xs i x).toArray) := fun ty dc => by
    have hmin : Nat.min 1 (xs.length + 1 - i) = 1 := by simp only [Nat.min_def]; split <;> omega
    have := run_copy2 W1 ty b (i * 2) (xs.length + 1 - i) dc ⟨q, 0, none⟩ 1 1 (c1_ cs.toList xs i).toArray (flat [x]) hb1 (by rw [hmin]; rfl)
      (news2 ((cell_of_row _ _ 0 _ _ _ hq1).trans rfl) ((cell_of_row _ _ 1 _ _ _ hq1).trans rfl)) (by simp only [List.size_toArray]; rw [hc1l, flat_len]; simp; omega) (oneCell_flat _)
    rw [hmin] at this
    exact this
  have hov : ∀ lb cb, (callFunc 44 #[.slice (some ⟨q, 0, none⟩) 1 1, .slice (some ⟨b, (i + 1) * 2, none⟩) lb cb]).run Try.prog w = .ok (.value (.bool false)) w := fun lb cb => over_no w q b _ lb cb 1 _ _ hq hb hqb (by rw [hsz]; omega)
  have HPOST : Aside (InsPost w B (xs.take i ++ x :: xs.drop i) (some b) (.returned (.slice (some ⟨b, 0, none⟩) (xs.length + 1) cap)) (W1.setRow b (c2_ cs.toList xs i x).toArray)) := by
    have hfin : (W1.setRow b (c2_ cs.toList xs i x).toArray).heap[b]? = some (.cells (c2_ cs.toList xs i x).toArray 54 (0, 0)) := setRow_heap W1 b _ _ 54 (0, 0) hb1
    have hyl : (xs.take i ++ x :: xs.drop i).length = xs.length + 1 := by simp; omega
    have hc2l : (c2_ cs.toList xs i x).length = cap * 2 := by rw [hc2, List.length_append, flat_len, hyl, List.length_drop, hLl]; omega
    refine ⟨_, some b, rfl, ⟨cap, (c2_ cs.toList xs i x).toArray, by rw [hyl], hB, hfin, by simpa using hc2l, by rw [hyl]; omega, hm, ?_, by rw [hyl]; omega⟩, .inl rfl, ?_⟩
    · rw [hyl, hc2]
      have e : (flat (xs.take i ++ x :: xs.drop i)).length = (xs.length + 1) * 2 := by rw [flat_len, hyl]
      rw [← e]; simp
    · rw [hW1]
      exact ⟨rfl, rfl, rfl, by rw [setRow_size, setRow_size]; exact Nat.le_refl _, fun k hk hn => by
        have hkb : k ≠ b := fun e => hn (by rw [e])
        rw [setRow_other _ b k _ hkb, setRow_other _ b k _ hkb]; rfl⟩
  clear hW1 hb1 hq1 hc1l hc2 hfl hf hb hq hsz hLl
  obtain ⟨n, HN⟩ : ∃ n, Hid (xs.length = n) := ⟨_, Lib.hid rfl⟩
  have HCP1 : Hid (∀ ty dc sc, (Builtin.copy_ #[47, 47] ty #[.slice (some ⟨b, (i + 1) * 2, none⟩) (n - i) dc, .slice (some ⟨b, i * 2, none⟩) (n + 1 - i) sc]).run Try.prog w.drew = .ok (goInt ((n - i : Nat) : Int)) W1) := Lib.hid (fun ty dc sc => by have := hcp1 ty dc sc; rw [HN.out, Nat.add_sub_add_right] at this; exact this)
  have HCP2 : Hid (∀ ty dc, (Builtin.copy_ #[47, 47] ty #[.slice (some ⟨b, i * 2, none⟩) (n + 1 - i) dc, .slice (some ⟨q, 0, none⟩) 1 1]).run Try.prog W1 = .ok (goInt ((1 : Nat) : Int)) (W1.setRow b (c2_ cs.toList xs i x).toArray)) := Lib.hid (by rw [← HN.out]; exact hcp2)
  rw [HN.out] at hi hroom hlen HPOST ⊢
  clear hcp1 hcp2
  have hz2 : ¬ ((i : Int) = (n : Int)) := by omega
  have hw1 : IntKind.i64.wrap ((i : Int) + 1) = (i : Int) + 1 := by rw [IntKind.wrap_i64]; omega
  have hb0 : (0 : Int) ≤ (i : Int) + 1 := by omega
  have htn : ((i : Int) + 1).toNat = i + 1 := by omega
  have hb2 : ¬ (cap = i + 1) := by omega
  have hb3 : (i : Int) ≤ (n : Int) + 1 := by omega
  have hb4 : ¬ (cap = i) := by omega
  have hin : i ≤ n := by omega
  have hin2 : (i : Int) ≤ (n : Int) := by omega
  have hnc : ¬ ((cap : Int) < (n : Int) + 1) := by omega
  have hnc2 : (n : Int) + 1 ≤ (cap : Int) := by omega
  go_enter Try.func33, Try.ntmps33
  go_wp2_with (simp only [hov])
  have HC1 := HCP1.out
  go_region_law (fail)
  go_wp2_with ((with_reducible refine at_dst (N := 82) rfl ?_); refine Mark.mk_ ?_)
  refine Mark.un ?_
  refine wpList_copy_runI _ rfl _ _ 47 47 rfl _ _ rfl rfl (HCP2.out _ _) ?_
  go_wp2
  go_ret
  exact HPOST.out
end Go.Proofs.Ytppefdodhbdlpaa.H
