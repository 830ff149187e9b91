import Derived.Test.YtppefdodhbdlpaaVDg
import Derived.Lib.SliceRun
import Derived.Laws.Tables
namespace Go.Proofs.Ytppefdodhbdlpaa.H
open Go.RowKit Go.Shelf
set_option linter.unusedVariables false
set_option linter.unusedSimpArgs false
variable {w : World} {B g : Nat} {ks : Nat → Option Nat} {vs : Nat → Value} {S : Nat → List (Int × Int)} {now n : Int} {m r : List (Int × Int)} {t : Int × Int} {b o : Nat} {v : Value} {z y : Nat} {ks0 ks' : Ks} {W W' : World}
theorem flat_cells {xs : List (Int × Int)} {cs : Array Value} (hb : w.heap[b]? = some (.cells cs 54 (0, 0))) (hf : cs.toList.take (xs.length * 2) = flat xs) : ∀ j u, (flat xs)[j]? = some u → w.cell? ⟨b, j, none⟩ = some u := by
  intro j u hu
  rw [cell_of_row w b j _ _ _ hb]
  rw [← hf, List.getElem?_take] at hu
  split at hu
  · simpa using hu
  · cases hu
theorem flat_one : ∀ (xs : List (Int × Int)), ∀ u ∈ flat xs, u.oneCell' = true
  | [], u, h => by simp [flat] at h
  | x :: xs, u, h => by
    simp only [flat, List.mem_cons] at h
    rcases h with rfl | rfl | h
    · rfl
    · rfl
    · exact flat_one xs u h
set_option maxHeartbeats 1000000 in
set_option maxRecDepth 100000 in
theorem clone_c {xs : List (Int × Int)} {k : Option Nat} (h : Row w B v xs k) : Calls Try.prog 30 #[v] w (CatPost w xs) := by
  have q47 : ∀ (w : World) (a : Option Addr) (n c n' c' : Nat), (binOp .eql 47 (.slice a n c) (.slice none n' c')).run Try.prog w = .ok (.bool a.isNone) w := fun w a n c n' c' => Lib.run_eql_slice_nil w _ _ a n c n' c' Try.underlying47
  cases k with
  | none =>
    obtain ⟨rfl, rfl⟩ := h
    go_enter Try.func30, Try.ntmps30
    go_wp2
    go_ret
    exact ⟨_, none, rfl, ⟨rfl, rfl⟩, Below.refl _ _⟩
  | some b =>
    have hat := fun {j : Nat} (hj : j < xs.length) => h.at_ hj
    obtain ⟨i0, hi0, hz0, hzs, hzb⟩ := info_parts info54
    obtain ⟨cap, cs, rfl, hB, hb, hs, hl, hm, hf, h1⟩ := h
    have HA := Lib.hid (flat_cells (w := w) hb hf)
    clear hat hB hf
    go_enter Try.func30, Try.ntmps30
    go_wp2_with (at_builtin; refine wpList_append_own _ rfl _ _ 47 rfl w.heap.size 54 i0 _ 2 16 Try.underlying47 hi0 hz0 hzs hzb rfl (by decide) _ _ _ rfl (World.ownsRow_made w #[] 0 (Nat.le_refl _) (Nat.zero_le _) rfl) ⟨b, 0, none⟩ xs.length cap (flat xs) rfl ?qc1 ?qc2 ?qc3 ?qc4 ?qc5 ?qc6 ?_)
    case qc1 => exact flat_len xs
    case qc2 =>
      intro j u hj
      rw [Addr.add_lit]
      exact Lib.cell?_alloc_some _ (by rw [Nat.zero_add]; exact HA.out j u hj)
    case qc3 => exact flat_one xs
    case qc4 => unfold maxLen; omega
    case qc5 => omega
    case qc6 => simp
    intro v' w1 hown hgrow hnil
    go_wp2
    go_ret
    refine ⟨v', _, rfl, Row.of_own (by simpa using hown) (by omega), ?_⟩
    exact ((Below.refl _ w).alloc (Nat.le_refl _) _).grown hgrow (by simp) (by intro k hk; simp [Value.ownBlock] at hk; omega)
end Go.Proofs.Ytppefdodhbdlpaa.H
namespace Go.Proofs.Ytppefdodhbdlpaa.H
open Go.RowKit Go.Shelf
set_option linter.unusedVariables false
set_option linter.unusedSimpArgs false
variable {w : World} {B g g2 : Nat} {ks ks2 : Nat → Option Nat} {vs vs2 : Nat → Value} {S : Nat → List (Int × Int)} {now n : Int} {m r : List (Int × Int)} {t : Int × Int} {b o : Nat} {v : Value} {z y : Nat} {ks0 ks' : Ks} {W W' : World}
theorem Row.lower {B' : Nat} {xs : List (Int × Int)} {k : Option Nat} (h : Row w B v xs k) (hB : B' ≤ B) : Row w B' v xs k := by
  cases k with
  | none => exact h
  | some b => obtain ⟨cap, cs, e, h1, h2⟩ := h; exact ⟨cap, cs, e, Nat.le_trans hB h1, h2⟩
theorem wcells_congr (h : ∀ j, j < 64 → vs j = vs2 j) : wcells vs now n = wcells vs2 now n := by
  unfold wcells
  rw [List.map_congr_left (fun j hj => h j (List.mem_range.1 hj))]
/-- what the copy's loop carries -/
structure CLI (w : World) (g2 : Nat) (vs vs2 : Nat → Value) (S : Nat → List (Int × Int)) (now n : Int) (ks2 : Nat → Option Nat) (i : Nat) (W : World) : Prop where
  hg : W.heap[g2]? = some (.cells (wcells (fun j => if j < i then vs2 j else vs j) now n).toArray 50 (0, 0))
  rows : ∀ j, j < i → Row W (g2 + 1) (vs2 j) (S j) (ks2 j)
  ne : ∀ j j' b, j < i → j' < i → j ≠ j' → ks2 j = some b → ks2 j' ≠ some b
  bel : Below g2 w W
theorem Row.own_lt {xs : List (Int × Int)} {k : Option Nat} (h : Row w B v xs k) : ∀ b, k = some b → B ≤ b ∧ b < w.heap.size := by
  rintro b rfl
  have := h.lt
  obtain ⟨cap, cs, e, h1, h2⟩ := h
  exact ⟨h1, this⟩
theorem CLI.step {i : Nat} (h : CLI w g2 vs vs2 S now n ks2 i W) (hi : i < 64) {v' : Value} {k' : Option Nat} (hR : Row W' W.heap.size v' (S i) k') (hb : Below W.heap.size W W') :
    CLI w g2 vs (fun j => if j = i then v' else vs2 j) S now n (fun j => if j = i then k' else ks2 j) (i + 1) (W'.setCell ⟨g2, i, none⟩ v') := by
  have hgl := (Array.getElem?_eq_some_iff.1 h.hg).1
  have hg' := (hb.block g2 hgl).trans h.hg
  have hT := setCell_turned (j := i) (u := v') hg'
  have hR' := hR.own_lt
  refine ⟨?_, fun j hj => ?_, fun j j' b hj hj' hne => ?_, h.bel.trans ((hb.mono (by omega)).trans (hT.below (fun k hk => by omega) (by have := hb.size; omega)))⟩
  · rw [setCell_heap hg', List.setIfInBounds_toArray, wcells_set _ now n hi]
    congr 4
    funext j
    by_cases h1 : j = i
    · simp [h1]
    · by_cases h2 : j < i
      · rw [if_neg h1, if_pos h2, if_pos (by omega), if_neg h1]
      · rw [if_neg h1, if_neg h2, if_neg (by omega)]
  · by_cases h1 : j = i
    · subst h1
      rw [if_pos rfl, if_pos rfl]
      exact (hR.lower (by omega)).turned hT (fun b hk h2 => by have := hR' b hk; omega)
    · rw [if_neg h1, if_neg h1]
      have h3 := (h.rows j (by omega)).below hb
      exact h3.turned hT (fun b hk h2 => by have := h3.own_lt b hk; omega)
  · by_cases h1 : j = i
    · rw [if_pos h1, if_neg (by omega)]
      intro hk h2
      have := hR' b hk
      have := (h.rows j' (by omega)).own_lt b h2
      omega
    · rw [if_neg h1]
      by_cases h4 : j' = i
      · rw [if_pos h4]
        intro hk h2
        have := hR' b h2
        have := (h.rows j (by omega)).own_lt b hk
        omega
      · rw [if_neg h4]
        exact h.ne j j' b (by omega) (by omega) hne
theorem CLI.done (h : CLI w g2 vs vs2 S now n ks2 64 W) : IsW W g2 g2 ks2 vs2 S now n :=
  ⟨h.hg.trans (by rw [wcells_congr (vs2 := vs2) (fun j hj => if_pos hj)]), Nat.le_refl _, fun i hi => (h.rows i hi).lower (by omega), fun i j b hi hj hne => h.ne i j b hi hj hne⟩
theorem info50 : (Try.prog.info? 50).map (·.size) = some 66 := by kernel_rfl
theorem wcells_size : (wcells vs now n).toArray.size = 66 := by simp [wcells]
theorem Row.one {xs : List (Int × Int)} {k : Option Nat} (h : Row w B v xs k) : v.oneCell' = true := by
  cases k with
  | none => obtain ⟨rfl, _⟩ := h; rfl
  | some b => obtain ⟨cap, cs, rfl, _⟩ := h; rfl
theorem Row.slice {xs : List (Int × Int)} {k : Option Nat} (h : Row w B v xs k) : ∃ A l c, v = .slice A l c := by
  cases k with
  | none => obtain ⟨rfl, _⟩ := h; exact ⟨_, _, _, rfl⟩
  | some b => obtain ⟨cap, cs, rfl, _⟩ := h; exact ⟨_, _, _, rfl⟩
theorem IsW.one (h : IsW w B g ks vs S now n) : (wcells vs now n).toArray.all (·.oneCell') = true := by
  simp only [wcells, List.all_toArray, List.all_append, List.all_map, Bool.and_eq_true, List.all_eq_true]
  refine ⟨fun i hi => (h.rows i (List.mem_range.1 hi)).one, fun x hx => ?_⟩
  simp at hx
  rcases hx with rfl | rfl <;> rfl
theorem setRow_below {B' g : Nat} (cs : Array Value) (h : B' ≤ g) : Below B' w (w.setRow g cs) := by
  refine ⟨rfl, rfl, rfl, by simp, fun k hk => ?_⟩
  unfold World.setRow
  simp only
  rw [Array.getElem?_modify, if_neg (by omega)]
def CopyPost (w : World) (m : List (Int × Int)) (now : Int) (e : Ending) (w' : World) : Prop :=
  e = .returned (.pointer (some ⟨w.heap.size, 0, none⟩)) ∧ ∃ ks2, Wh w' w.heap.size w.heap.size ks2 m now ∧ Below w.heap.size w w' ∧ ∀ j, own w.heap.size ks2 j → w.heap.size ≤ j
theorem setRow_heap {g : Nat} {old cs : Array Value} {ty : TypeId} (h : w.heap[g]? = some (.cells old ty (0, 0))) : (w.setRow g cs).heap[g]? = some (.cells cs ty (0, 0)) := by
  unfold World.setRow
  simp only
  rw [Array.getElem?_modify, if_pos rfl, h]
  rfl
set_option maxHeartbeats 4000000 in
set_option maxRecDepth 100000 in
theorem copy_c (h : Wh w B g ks m now) : Calls Try.prog 17 #[.pointer (some ⟨g, 0, none⟩)] w (CopyPost w m now) := by
  obtain ⟨hgood, vs, hi⟩ := h
  obtain ⟨C, hC⟩ : ∃ C, (wcells vs now m.length).toArray = C := ⟨_, rfl⟩
  have hg := hi.hg
  rw [hC] at hg
  have h66 : (Try.prog.info? 50).map (·.size) = some C.size := by rw [← hC, wcells_size]; exact info50
  have hone : C.all (·.oneCell') = true := by rw [← hC]; exact hi.one
  have HG := Lib.hid hg
  have H66 := Lib.hid h66
  have HONE := Lib.hid hone
  have HC := Lib.hid hC
  have HI := Lib.hid hi
  have HGd := Lib.hid hgood
  have hs66 : 66 = C.size := by rw [← hC, wcells_size]
  have HS66 := Lib.hid hs66
  clear hg h66 hone hC hi hgood hs66
  go_enter Try.func17, Try.ntmps17
  go_wp2_with ((with_reducible refine at_dst (N := 8) rfl ?_); refine Mark.mk_ ?_)
  refine Mark.un ?_
  refine wpList_load_row rfl 50 _ rfl g rfl 50 C (0, 0) _ HG.out Try.underlying50 rfl H66.out ?_
  go_wp2_with ((with_reducible refine at_store (t := 50) (p := 3) rfl ?_); refine Mark.mk_ ?_)
  refine Mark.un ?_
  obtain ⟨z, HZ⟩ : ∃ z, Hid (w.heap.size = z) := ⟨_, Lib.hid rfl⟩
  rw [HZ.out]
  refine wpList_store_row rfl 50 _ _ rfl z C rfl rfl 50 Try.zeroCells50 (by rw [← HZ.out]; exact heap_alloc_new w _) H66.out (by rw [← HS66.out]; rfl) HONE.out ?_
  obtain ⟨W2, hW2⟩ : ∃ W2, (w.alloc (.cells Try.zeroCells50 50)).setRow z C = W2 := ⟨_, rfl⟩
  have hk2 : W2.heap[z]? = some (.cells C 50 (0, 0)) := by rw [← hW2]; exact setRow_heap (by rw [← HZ.out]; exact heap_alloc_new w _)
  have hb2 : Below z w W2 := by rw [← hW2, ← HZ.out]; exact ((Below.refl _ w).alloc (Nat.le_refl _) _).trans (setRow_below _ (Nat.le_refl _))
  rw [hW2]
  clear hW2
  have hl : Hid (World.rangeAt W2 g 0 ((List.range 64).map vs)) := Lib.hid (HI.out.range (by rw [HZ.out]; exact hb2))
  obtain ⟨A, hA⟩ : ∃ A, Hid (((List.range 64).map vs).toArray = A) := ⟨_, Lib.hid rfl⟩
  have hAt : Hid (∀ k, k < 64 → A[k]? = some (vs k)) := Lib.hid (fun k hk => by rw [← hA.out]; simp [hk])
  have HJ := Lib.hid (show CLI w z vs vs (spoke m) now m.length (fun _ => none) 0 W2 from ⟨by rw [hk2, ← HC.out]; congr 3, fun j hj => by omega, fun j j' b hj => by omega, hb2⟩)
  clear hk2 hb2
  go_wp2_with ((with_reducible refine at_dst (N := 12) rfl ?_); refine Mark.mk_ ?_)
  refine Mark.un ?_
  refine wpList_load_mid rfl 48 _ rfl g 0 rfl _ _ hl.out Try.underlying48 rfl (by kernel_rfl) ?_
  rw [hA.out]
  go_wp2_with fail
  go_loopg [4, 5, 13] 64 (fun gg _ _ s13 wr => ∃ i : Nat, ∃ vs2 ks2, i ≤ 64 ∧ 64 - i ≤ gg ∧ s13 = .int .i64 i ∧ Aside (CLI w z vs vs2 (spoke m) now m.length ks2 i wr))
  case atStart => exact ⟨0, vs, fun _ => none, by omega, by omega, rfl, HJ.out⟩
  case round =>
    obtain ⟨i, vs2, ks2, hi, hgg, rfl, hJ⟩ := hrel
    by_cases hlt : i < 64
    · have hltz : (i : Int) < 64 := by omega
      have hw : Below w.heap.size w wr := by rw [HZ.out]; exact hJ.out.bel
      have hcall := clone_c ((HI.out.rows i hlt).below hw)
      have hix := run_index64 A i hlt (vs i) (hAt.out i hlt)
      have hia := fun W => run_indexAt64 z i hlt W
      obtain ⟨vk, hvk⟩ : ∃ vk, Hid (vs i = vk) := ⟨_, Lib.hid rfl⟩
      rw [hvk.out] at hcall hix
      have HCL := Lib.hid hcall
      clear hw hcall
      go_wp2_with fail
      go_fit HCL.out; rintro e w' ⟨v', k', rfl, hR, hb⟩
      have HN := Lib.hid (hJ.out.step hlt hR hb)
      have hk' := (hb.block z (Array.getElem?_eq_some_iff.1 hJ.out.hg).1).trans hJ.out.hg
      have f0 : w'.frozen? ⟨z, i, none⟩ = false := frozen_of_row w' z i _ _ hk'
      obtain ⟨u0, c0⟩ : ∃ u0, w'.cell? ⟨z, i, none⟩ = some u0 := ⟨_, (cell_of_row w' z i _ _ _ hk').trans (by rw [List.getElem?_toArray]; exact wcells_at _ _ _ hlt)⟩
      obtain ⟨A', l', cap', rfl⟩ := hR.slice
      clear hR hb hk' hJ HCL
      go_wp2
      go_roundg (64 - (i + 1))
      case measure => omega
      case rel => exact ⟨i + 1, _, _, by omega, by omega, by go_num, HN.out⟩
    · have hltz : ¬ (i : Int) < 64 := by omega
      obtain rfl : i = 64 := by omega
      have HW : Hid (Wh wr z z ks2 m now) := Lib.hid ⟨HGd.out, vs2, hJ.out.done⟩
      have HBl := Lib.hid hJ.out.bel
      have HD := Lib.hid hJ.out.done
      clear hJ
      go_wp2
      go_ret
      refine ⟨by rw [HZ.out]; rfl, ks2, by rw [HZ.out]; exact HW.out, by rw [HZ.out]; exact HBl.out, fun j hj => ?_⟩
      rw [HZ.out] at hj ⊢
      rcases hj with rfl | ⟨i, hi, hk⟩
      · exact Nat.le_refl _
      · exact ((HD.out.rows i hi).own_lt _ hk).1
end Go.Proofs.Ytppefdodhbdlpaa.H
