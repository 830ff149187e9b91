import Derived.Test.YtppefdodhbdlpaaVHh
import Derived.Deep.DeepFit
namespace Go.Proofs.Ytppefdodhbdlpaa.H
open Go.RowKit Go.Shelf
set_option linter.unusedVariables false
set_option linter.unusedSimpArgs false
variable {w : World} {B g : Nat} {ks : Nat → Option Nat} {vs : Nat → Value} {S : Nat → List (Int × Int)} {now n : Int}
theorem IsW.ne_g (h : IsW w B g ks vs S now n) {i b : Nat} (hi : i < 64) (hk : ks i = some b) : b ≠ g := by
  have hr := h.rows i hi
  rw [hk] at hr
  obtain ⟨cap, cs, _, _, hb, _⟩ := hr
  intro e
  subst e
  have := hb.symm.trans h.hg
  simp at this
def own (g : Nat) (ks : Nat → Option Nat) (j : Nat) : Prop := j = g ∨ ∃ i, i < 64 ∧ ks i = some j
def WPost (w : World) (B g : Nat) (ks : Nat → Option Nat) (S' : Nat → List (Int × Int)) (now n : Int) (e : Ending) (w' : World) : Prop :=
  e = .returned (.tuple #[]) ∧ ∃ ks' vs', IsW w' B g ks' vs' S' now n ∧ Turned w w' (own g ks) ∧ ∀ j, own g ks' j → own g ks j ∨ w.heap.size ≤ j
theorem setCell_turned {w : World} {g j : Nat} {cs : Array Value} {t : TypeId} {u : Value} (h : w.heap[g]? = some (.cells cs t (0, 0))) : Turned w (w.setCell ⟨g, j, none⟩ u) (fun k => k = g) := by
  rw [setCell_eq_setRow w g j cs t (0, 0) u h]
  exact ⟨rfl, rfl, rfl, by rw [setRow_size]; exact Nat.le_refl _, fun k hk hn => setRow_other w g k _ hn⟩
theorem IsW.put_row (h : IsW w B g ks vs S now n) {i : Nat} (hi : i < 64) {w' : World} (hT : Turned w w' (fun k => some k = ks i)) {v' : Value} {k' : Option Nat} {ys : List (Int × Int)} (hR : Row w' B v' ys k')
    (hk : ∀ b, k' = some b → ks i = some b ∨ w.heap.size ≤ b) (n' : Int) :
    WPost w B g ks (fun j => if j = i then ys else S j) now n' (.returned (.tuple #[])) ((w'.setCell ⟨g, i, none⟩ v').setCell ⟨g, 65, none⟩ (.int .i64 n')) := by
  have hgl : g < w.heap.size := (Array.getElem?_eq_some_iff.1 h.hg).1
  have hg0 : w'.heap[g]? = some (.cells (wcells vs now n).toArray 50 (0, 0)) := (hT.block g hgl (fun e => h.ne_g hi e.symm rfl)).trans h.hg
  have hg1 : (w'.setCell ⟨g, i, none⟩ v').heap[g]? = some (.cells (wcells (fun j => if j = i then v' else vs j) now n).toArray 50 (0, 0)) := by
    rw [setCell_heap hg0, List.setIfInBounds_toArray, wcells_set vs now n hi]
  have hg2 : ((w'.setCell ⟨g, i, none⟩ v').setCell ⟨g, 65, none⟩ (.int .i64 n')).heap[g]? = some (.cells (wcells (fun j => if j = i then v' else vs j) now n').toArray 50 (0, 0)) := by
    rw [setCell_heap hg1, List.setIfInBounds_toArray, wcells_set_n]
  have hT2 : Turned w' ((w'.setCell ⟨g, i, none⟩ v').setCell ⟨g, 65, none⟩ (.int .i64 n')) (fun k => k = g) := (setCell_turned hg0).trans (setCell_turned hg1) (fun k hk => .inl hk)
  have hnew : ∀ b, k' = some b → b ≠ g := fun b e => by
    rcases hk b e with h1 | h1
    · exact h.ne_g hi h1
    · omega
  refine ⟨rfl, fun j => if j = i then k' else ks j, _, ⟨hg2, h.hB, fun j hj => ?_, fun j j2 b hj hj2 hne hb => ?_⟩, ?_, fun j hj => ?_⟩
  · by_cases e : j = i
    · subst e; simp only [if_pos]
      exact hR.turned hT2 hnew
    · simp only [if_neg e]
      exact ((h.rows j hj).turned hT (fun b hb h2 => h.ne j i b hj hi e hb h2.symm)).turned hT2 (fun b hb => h.ne_g hj hb)
  · by_cases e : j = i
    · subst e
      simp only [if_pos] at hb
      rw [if_neg (Ne.symm hne)]
      intro h2
      rcases hk b hb with h1 | h1
      · exact h.ne j j2 b hj hj2 hne h1 h2
      · have hr := h.rows j2 hj2; rw [h2] at hr; have := hr.lt; omega
    · rw [if_neg e] at hb
      by_cases e2 : j2 = i
      · subst e2
        rw [if_pos rfl]
        intro h2
        rcases hk b h2 with h1 | h1
        · exact h.ne j j2 b hj hj2 hne hb h1
        · have hr := h.rows j hj; rw [hb] at hr; have := hr.lt; omega
      · rw [if_neg e2]; exact h.ne j j2 b hj hj2 hne hb
  · exact (hT.mono (T2 := own g ks) (fun k hk => .inr ⟨i, hi, hk.symm⟩)).trans hT2 (fun k hk => .inl (.inl hk))
  · rcases hj with rfl | ⟨i2, hi2, h2⟩
    · exact .inl (.inl rfl)
    · by_cases e : i2 = i
      · subst e
        simp only [if_pos] at h2
        rcases hk j h2 with h1 | h1
        · exact .inl (.inr ⟨i2, hi, h1⟩)
        · exact .inr h1
      · simp only [if_neg e] at h2; exact .inl (.inr ⟨i2, hi2, h2⟩)
set_option maxHeartbeats 1000000 in
set_option maxRecDepth 100000 in
theorem take_c (h : IsW w B g ks vs S now n) {i k : Nat} (hi : i < 64) (hk : k < (S i).length) (hn : 0 < n ∧ n ≤ 1048576) :
    Calls Try.prog 29 #[.pointer (some ⟨g, 0, none⟩), .int .i64 i, .int .i64 k] w (WPost w B g ks (fun j => if j = i then (S i).eraseIdx k else S j) now (n - 1)) := by
  obtain ⟨b, cap, e1, e2⟩ := (h.rows i hi).some_ hk
  obtain ⟨m, hm⟩ : ∃ m, (S i).length = m + 1 := ⟨(S i).length - 1, by omega⟩
  have hr := h.rows i hi
  rw [e1, e2, hm] at hr
  have hbg := h.ne_g hi e1
  have hcall : ∀ W, W.heap[b]? = w.heap[b]? → Calls Try.prog 41 #[.slice (some ⟨b, 0, none⟩) (m + 1) cap, .int .i64 k, .int .i64 ((k : Int) + 1)] W (DelPost W B b cap m ((S i).eraseIdx k)) := fun W hW => by
    refine delete_c hm ?_ (by omega)
    obtain ⟨cap2, cs, q1, q2, q3, q4⟩ := hr
    exact ⟨cap2, cs, q1, q2, hW.trans q3, q4⟩
  have hc1 : w.cell? ⟨g, i, none⟩ = some (.slice (some ⟨b, 0, none⟩) (m + 1) cap) := (h.c hi).trans (by rw [e2, hm])
  have hia := fun W => run_indexAt64 g i hi W
  have HI : Aside (IsW w B g ks vs S now n) := h
  have hkm : k < m + 1 := by omega
  have hgl : g < w.heap.size := (Array.getElem?_eq_some_iff.1 h.hg).1
  have hfg : w.frozen? ⟨g, i, none⟩ = false := by simp only [World.frozen?, h.hg]; rfl
  have hcn := h.cn
  have hfn : w.frozen? ⟨g, 65, none⟩ = false := by simp only [World.frozen?, h.hg]; rfl
  have hne65 : ¬ i = 65 := by omega
  have HK : Hid (ks i = some b) := Lib.hid e1
  obtain ⟨hn0, hn1⟩ := hn
  have hw1 : IntKind.i64.wrap ((k : Int) + 1) = (k : Int) + 1 := by rw [IntKind.wrap_i64]; have := hr.own.2.2; omega
  clear h hr e1 e2 hk hm
  have HC : Hid (∀ W, W.heap[b]? = w.heap[b]? → Calls Try.prog 41 #[.slice (some ⟨b, 0, none⟩) (m + 1) cap, .int .i64 k, .int .i64 ((k : Int) + 1)] W (DelPost W B b cap m ((S i).eraseIdx k))) := Lib.hid hcall
  clear hcall
  go_enter Try.func29, Try.ntmps29
  go_wp2
  have hX := HC.out w.drew rfl
  go_region_with ((go_fit hX; clear hX; rintro e w' hD; obtain ⟨hE, hR, hG⟩ := hD; subst hE; have hc2 := (hG.cell_far ⟨g, i, none⟩ hgl (fun e => hbg (by simpa using e.symm))).trans hc1; have hf2 := (hG.frozen_far ⟨g, i, none⟩ hgl (fun e => hbg (by simpa using e.symm))).trans hfg))
  have hc3 := (hG.cell_far ⟨g, 65, none⟩ hgl (fun e => hbg (by simpa using e.symm))).trans hcn
  have hf3 := (hG.frozen_far ⟨g, 65, none⟩ hgl (fun e => hbg (by simpa using e.symm))).trans hfn
  clear hc1 hfg hcn hfn hia
  have hP : Aside (WPost w B g ks (fun j => if j = i then (S i).eraseIdx k else S j) now (n - 1) (.returned (.tuple #[])) ((w'.setCell ⟨g, i, none⟩ (.slice (some ⟨b, 0, none⟩) m cap)).setCell ⟨g, 65, none⟩ (.int .i64 (n - 1)))) :=
    HI.out.put_row hi (w' := w') (by rw [HK.out]; exact Turned.of_grown ⟨hG.os, hG.tape, hG.output, hG.size, hG.block⟩) hR (fun b' e => .inl (by rw [HK.out, e])) (n - 1)
  clear hR hG hc2 hf2
  go_wp2
  go_end0
  exact hP.out
end Go.Proofs.Ytppefdodhbdlpaa.H
namespace Go.Proofs.Ytppefdodhbdlpaa.H
open Go.RowKit Go.Shelf
set_option linter.unusedVariables false
set_option linter.unusedSimpArgs false
variable {w : World} {B g : Nat} {ks : Nat → Option Nat} {vs : Nat → Value} {S : Nat → List (Int × Int)} {now n : Int}
def g1_ (R : List Value) (i : Nat) (x : Int × Int) : List Value := R.take (i * 2) ++ flat [x] ++ R.drop (i * 2 + (flat [x]).length)
def g2_ (R : List Value) (xs : List (Int × Int)) (i : Nat) (x : Int × Int) : List Value := (g1_ R i x).take ((i + 1) * 2) ++ flat (xs.drop i) ++ (g1_ R i x).drop ((i + 1) * 2 + (flat (xs.drop i)).length)
theorem g1_len {R : List Value} {i G : Nat} (x : Int × Int) (hR : R.length = G * 2) (hi : i < G) : (g1_ R i x).length = G * 2 := by
  unfold g1_; simp [flat_len]; omega
theorem g2_len {R : List Value} {xs : List (Int × Int)} {i G : Nat} (x : Int × Int) (hR : R.length = G * 2) (hi : i < xs.length) (hG : xs.length + 1 ≤ G) : (g2_ R xs i x).length = G * 2 := by
  have := g1_len (R := R) (i := i) x hR (by omega)
  unfold g2_; simp [flat_len]; omega
theorem g2_take {R : List Value} {xs : List (Int × Int)} {i G : Nat} (x : Int × Int) (hR : R.length = G * 2) (hi : i < xs.length) (hG : xs.length + 1 ≤ G) (hf : R.take (i * 2) = flat (xs.take i)) :
    (g2_ R xs i x).take ((xs.length + 1) * 2) = flat (xs.take i ++ x :: xs.drop i) := by
  have e1 : (g1_ R i x).take ((i + 1) * 2) = flat (xs.take i) ++ flat [x] := by
    unfold g1_
    rw [hf]
    refine List.take_left' ?_
    rw [List.length_append, flat_len, flat_len, List.length_take]; simp; omega
  unfold g2_
  rw [e1, show xs.take i ++ x :: xs.drop i = xs.take i ++ ([x] ++ xs.drop i) by simp, flat_append, flat_append, List.append_assoc (flat (xs.take i))]
  refine List.take_left' ?_
  simp only [List.length_append, flat_len, List.length_take, List.length_drop, List.length_singleton]; omega
theorem zeroCells_len (k : Nat) : (Builtin.zeroCells (Value.agg #[Value.int .i64 0, Value.int .i64 0]).cells k).size = k * 2 := by
  simp [Builtin.zeroCells, Value.cells]
set_option maxHeartbeats 4000000 in
set_option maxRecDepth 100000 in
theorem insert_grow {xs : List (Int × Int)} {b : Nat} (h : Row w B (.slice (some ⟨b, 0, none⟩) xs.length xs.length) xs (some b)) {i : Nat} (hi : i < xs.length) (x : Int × Int) (q : Nat)
    (hq : w.heap[q]? = some (.cells #[.int .i64 x.1, .int .i64 x.2] 54 (0, 0))) (hqb : q ≠ b) (hlen : xs.length < 1048576) (hBw : B ≤ w.heap.size) :
    Calls Try.prog 33 #[.slice (some ⟨b, 0, none⟩) xs.length xs.length, .int .i64 i, .slice (some ⟨q, 0, none⟩) 1 1] w (InsPost w B (xs.take i ++ x :: xs.drop i) (some b)) := by
  obtain ⟨cap2, cs, h1, hB, hb, hsz, hl, hm, hf, h2⟩ := h
  obtain rfl : xs.length = cap2 := by simp at h1; exact h1
  clear h1 hl
  obtain ⟨i0, hi0, hz0, hzs, hzb⟩ := info_parts info54
  have hLl : cs.toList.length = xs.length * 2 := by simpa using hsz
  have hfc : cs.toList = flat xs := by rw [← hf, List.take_of_length_le (by omega)]
  have hbw : b < w.heap.size := (Array.getElem?_eq_some_iff.1 hb).1
  have hqw : q < w.heap.size := (Array.getElem?_eq_some_iff.1 hq).1
  have hcell : ∀ j v, (flat xs)[j]? = some v → w.cell? ⟨b, j, none⟩ = some v := fun j v hj => by
    rw [cell_of_row w b _ cs 54 (0, 0) hb]; rw [← hfc] at hj; simpa using hj
  have hold : (Builtin.firstCells i0.size i (.slice (some ⟨b, 0, none⟩) i xs.length)).run Try.prog w.drew = .ok (flat (xs.take i)).toArray w.drew := by
    rw [hzs]
    exact run_firstCells_some w.drew 2 i ⟨b, 0, none⟩ i xs.length (flat (xs.take i)) (by rw [flat_len, List.length_take]; omega) (fun j v hj => by
      rw [Addr.add_mid, Nat.zero_add]
      rw [← flat_take, List.getElem?_take] at hj
      split at hj
      · exact hcell j v hj
      · cases hj)
  obtain ⟨G, hG⟩ : ∃ G, G = grownCap w (xs.length + 1) xs.length 54 := ⟨_, rfl⟩
  have hGn : xs.length + 1 ≤ G := by rw [hG]; exact grownCap_ge w _ _ _
  have hG63 : G ≤ maxLen := by
    rw [hG]; exact grownCap_le_maxLen w (xs.length + 1) xs.length 54 (by unfold maxLen; omega)
  obtain ⟨ROW, hROW⟩ : ∃ ROW : Array Value, ROW = (flat (xs.take i)).toArray ++ Builtin.zeroCells (Value.agg #[Value.int .i64 0, Value.int .i64 0]).cells (xs.length + 1 - i) ++ Builtin.zeroCells (Value.agg #[Value.int .i64 0, Value.int .i64 0]).cells (G - (xs.length + 1)) := ⟨_, rfl⟩
  have hRl : ROW.toList.length = G * 2 := by
    rw [hROW]
    simp only [Array.length_toList, Array.size_append, List.size_toArray, flat_len, List.length_take, zeroCells_len]
    omega
  have hRt : ROW.toList.take (i * 2) = flat (xs.take i) := by
    rw [hROW]
    simp only [Array.toList_append, List.append_assoc]
    refine List.take_left' ?_
    rw [flat_len, List.length_take]; omega
  obtain ⟨W1, hW1⟩ : ∃ W1, W1 = w.drew.alloc (.cells ROW 54) := ⟨_, rfl⟩
  have hrz : ∀ ty, (Builtin.append_ #[47, 3] ty #[.slice (some ⟨b, 0, none⟩) i xs.length, .int .i64 ((xs.length : Int) + 1 - (i : Int))]).run Try.prog w =
      .ok (.slice (some ⟨w.heap.size, 0, none⟩) (xs.length + 1) G) W1 := fun ty => by
    have hr : xs.length < xs.length + 1 := by omega
    have hbig : (xs.length + 1) * 16 ≤ 140737488355328 := by omega
    have h := Lib.run_append_grow_zeros w 47 3 ty 54 i0 _ .i64 .i64 Try.underlying47 Try.underlying3 hi0 hz0 (some ⟨b, 0, none⟩) i xs.length (flat (xs.take i)) hold (xs.length + 1 - i) (by omega) (by omega) (by omega) (by omega) (by rw [hzb]; omega) (by rw [hzb, show i + (xs.length + 1 - i) = xs.length + 1 by omega]; exact growslice_fits hr hbig)
    rw [show i + (xs.length + 1 - i) = xs.length + 1 by omega, ← hG, ← hROW, ← hW1] at h
    rw [show (xs.length : Int) + 1 - (i : Int) = ((xs.length + 1 - i : Nat) : Int) by omega]
    exact h
  have hg1 : W1.heap[w.heap.size]? = some (.cells ROW 54 (0, 0)) := by rw [hW1]; exact heap_alloc_new w.drew _
  have hold1 : ∀ k, k < w.heap.size → W1.heap[k]? = w.heap[k]? := fun k hk => by rw [hW1]; exact Below.heap_alloc w.drew _ k hk
  have hq1 : W1.heap[q]? = some (.cells #[.int .i64 x.1, .int .i64 x.2] 54 (0, 0)) := (hold1 q hqw).trans hq
  have hg1l := g1_len (R := ROW.toList) (i := i) x hRl (by omega)
  have hg2l := g2_len (R := ROW.toList) x hRl hi hGn
  have hg2t := g2_take (R := ROW.toList) x hRl hi hGn hRt
  obtain ⟨W2, hW2⟩ : ∃ W2, W2 = W1.setRow w.heap.size (g1_ ROW.toList i x).toArray := ⟨_, rfl⟩
  have hcp1 : ∀ ty dc, (Builtin.copy_ #[47, 47] ty #[.slice (some ⟨w.heap.size, i * 2, none⟩) (xs.length + 1 - i) dc, .slice (some ⟨q, 0, none⟩) 1 1]).run Try.prog W1 = .ok (goInt ((1 : Nat) : Int)) W2 := fun ty dc => by
    have hmin : Nat.min 1 (xs.length + 1 - i) = 1 := by simp only [Nat.min_def]; split <;> omega
    have := run_copy2 W1 ty w.heap.size (i * 2) (xs.length + 1 - i) dc ⟨q, 0, none⟩ 1 1 ROW (flat [x]) hg1 (by rw [hmin]; rfl)
      (news2 ((cell_of_row _ _ 0 _ _ _ hq1).trans rfl) ((cell_of_row _ _ 1 _ _ _ hq1).trans rfl)) (by rw [flat_len]; simp only [Array.length_toList] at hRl; simp; omega) (oneCell_flat _)
    rw [hmin] at this
    rw [hW2]; exact this
  have hg2 : W2.heap[w.heap.size]? = some (.cells (g1_ ROW.toList i x).toArray 54 (0, 0)) := by rw [hW2]; exact setRow_heap W1 _ _ _ 54 (0, 0) hg1
  have hb2 : W2.heap[b]? = some (.cells cs 54 (0, 0)) := by rw [hW2]; exact (setRow_other W1 _ b _ (by omega)).trans ((hold1 b hbw).trans hb)
  have hfl : (flat (xs.drop i)).length = (xs.length - i) * 2 := by rw [flat_len, List.length_drop]
  have hcp2 : ∀ ty dc sc, (Builtin.copy_ #[47, 47] ty #[.slice (some ⟨w.heap.size, (i + 1) * 2, none⟩) (xs.length + 1 - (i + 1)) dc, .slice (some ⟨b, i * 2, none⟩) (xs.length - i) sc]).run Try.prog W2.drew = .ok (goInt ((xs.length - i : Nat) : Int)) (W2.drew.setRow w.heap.size (g2_ ROW.toList xs i x).toArray) := fun ty dc sc => by
    have hmin : Nat.min (xs.length - i) (xs.length + 1 - (i + 1)) = xs.length - i := by simp only [Nat.min_def]; split <;> omega
    have := run_copy2 W2.drew ty w.heap.size ((i + 1) * 2) (xs.length + 1 - (i + 1)) dc ⟨b, i * 2, none⟩ (xs.length - i) sc (g1_ ROW.toList i x).toArray (flat (xs.drop i)) hg2 (by rw [hfl, hmin])
      (fun j u hj => by
        rw [Addr.add_mid, cell_of_row W2.drew b _ cs 54 (0, 0) hb2]
        rw [← flat_drop, ← hfc, List.getElem?_drop] at hj
        simpa using hj)
      (by rw [hfl]; simp only [List.size_toArray]; rw [hg1l]; omega) (oneCell_flat _)
    rw [hmin] at this
    exact this
  have HPOST : Aside (InsPost w B (xs.take i ++ x :: xs.drop i) (some b) (.returned (.slice (some ⟨w.heap.size, 0, none⟩) (xs.length + 1) G)) (W2.drew.setRow w.heap.size (g2_ ROW.toList xs i x).toArray)) := by
    have hyl : (xs.take i ++ x :: xs.drop i).length = xs.length + 1 := by simp; omega
    refine ⟨_, some w.heap.size, rfl, ⟨G, _, by rw [hyl], hBw, setRow_heap W2.drew _ _ _ 54 (0, 0) hg2, by simpa using hg2l, by rw [hyl]; exact hGn, hG63, by rw [hyl]; exact hg2t, by rw [hyl]; omega⟩, .inr rfl, ?_⟩
    have hsz1 : W1.heap.size = w.heap.size + 1 := by rw [hW1]; simp
    refine ⟨by rw [hW2, hW1]; rfl, by rw [hW2, hW1]; rfl, by rw [hW2, hW1]; rfl, ?_, fun k hk hn => ?_⟩
    · rw [setRow_size]; show w.heap.size ≤ W2.heap.size; rw [hW2, setRow_size]; omega
    · rw [setRow_other _ _ k _ (by omega)]
      show W2.heap[k]? = _
      rw [hW2, setRow_other _ _ k _ (by omega)]
      exact hold1 k hk
  clear hG hW1 hW2 hROW hg1 hq1 hg1l hg2l hg2t hg2 hb2 hfl hold1 hold hcell hfc hf hb hq hsz hLl hRl hRt
  obtain ⟨n, HN⟩ : ∃ n, Hid (xs.length = n) := ⟨_, Lib.hid rfl⟩
  obtain ⟨z, HZ⟩ : ∃ z, Hid (w.heap.size = z) := ⟨_, Lib.hid rfl⟩
  have HRZ : Hid (∀ ty, (Builtin.append_ #[47, 3] ty #[.slice (some ⟨b, 0, none⟩) i n, .int .i64 ((n : Int) + 1 - (i : Int))]).run Try.prog w = .ok (.slice (some ⟨z, 0, none⟩) (n + 1) G) W1) := Lib.hid (by rw [← HN.out, ← HZ.out]; exact hrz)
  have HCP1 : Hid (∀ ty dc, (Builtin.copy_ #[47, 47] ty #[.slice (some ⟨z, i * 2, none⟩) (n + 1 - i) dc, .slice (some ⟨q, 0, none⟩) 1 1]).run Try.prog W1 = .ok (goInt ((1 : Nat) : Int)) W2) := Lib.hid (by rw [← HN.out, ← HZ.out]; exact hcp1)
  have HCP2 : Hid (∀ ty dc sc, (Builtin.copy_ #[47, 47] ty #[.slice (some ⟨z, (i + 1) * 2, none⟩) (n - i) dc, .slice (some ⟨b, i * 2, none⟩) (n - i) sc]).run Try.prog W2.drew = .ok (goInt ((n - i : Nat) : Int)) (W2.drew.setRow z (g2_ ROW.toList xs i x).toArray)) := Lib.hid (fun ty dc sc => by have := hcp2 ty dc sc; rw [Nat.add_sub_add_right, HN.out, HZ.out] at this; exact this)
  rw [HN.out] at hi hlen hGn HPOST ⊢
  rw [HZ.out] at HPOST
  clear hrz hcp1 hcp2
  have hz2 : ¬ ((i : Int) = (n : Int)) := by omega
  have hw1 : IntKind.i64.wrap ((i : Int) + 1) = (i : Int) + 1 := by rw [IntKind.wrap_i64]; omega
  have hb0 : (0 : Int) ≤ (i : Int) + 1 := by omega
  have htn : ((i : Int) + 1).toNat = i + 1 := by omega
  have hG63' : (G : Int) ≤ 9223372036854775807 := by unfold maxLen at hG63; omega
  have hb2 : ¬ (G = i + 1) := by omega
  have hb3 : (i : Int) ≤ (n : Int) + 1 := by omega
  have hb4 : ¬ (G = i) := by omega
  have hb5 : ¬ (n = i) := by omega
  have hb6 : (n : Int) + 1 ≤ (G : Int) := by omega
  have hin : i ≤ n := by omega
  have hin2 : (i : Int) ≤ (n : Int) := by omega
  have hnc : (n : Int) < (n : Int) + 1 := by omega
  go_enter Try.func33, Try.ntmps33
  go_wp2_with ((with_reducible refine at_dst (N := 40) rfl ?_); refine Mark.mk_ ?_)
  refine Mark.un ?_
  refine Lib.wpList_append_run _ rfl _ _ _ _ rfl _ _ rfl rfl _ _ (HRZ.out _) ?_
  go_wp2_with ((with_reducible refine at_dst (N := 45) rfl ?_); refine Mark.mk_ ?_)
  refine Mark.un ?_
  refine wpList_copy_runI _ rfl _ _ 47 47 rfl _ _ rfl rfl (HCP1.out _ _) ?_
  go_wp2
  have HC2 := HCP2.out
  go_region_law (fail)
  go_wp2
  go_ret
  exact HPOST.out
end Go.Proofs.Ytppefdodhbdlpaa.H
namespace Go.Proofs.Ytppefdodhbdlpaa.H
open Go.RowKit Go.Shelf
set_option linter.unusedVariables false
set_option linter.unusedSimpArgs false
variable {w : World} {B g : Nat} {ks : Nat → Option Nat} {vs : Nat → Value} {S : Nat → List (Int × Int)} {now n : Int}
theorem insert_c {v : Value} {xs : List (Int × Int)} {k : Option Nat} (h : Row w B v xs k) (x : Int × Int) (p q : Nat) (hp : p ≤ xs.length)
    (hq : w.heap[q]? = some (.cells #[.int .i64 x.1, .int .i64 x.2] 54 (0, 0))) (hqk : k ≠ some q) (hlen : xs.length < 1048576) (hB : B ≤ w.heap.size) :
    Calls Try.prog 33 #[v, .int .i64 p, .slice (some ⟨q, 0, none⟩) 1 1] w (InsPost w B (xs.take p ++ x :: xs.drop p) k) := by
  by_cases he : p = xs.length
  · subst he
    rw [List.take_length, List.drop_length]
    exact insert_end h x q 1 ((cell_of_row _ _ 0 _ _ _ hq).trans rfl) ((cell_of_row _ _ 1 _ _ _ hq).trans rfl) hlen hB
  · have hpl : p < xs.length := by omega
    obtain ⟨b, cap, rfl, rfl⟩ := h.some_ hpl
    have hqb : q ≠ b := fun e => hqk (by rw [e])
    by_cases hr : xs.length < cap
    · exact insert_room h hpl x q hq hqb hr hlen
    · have : cap = xs.length := by
        obtain ⟨cap2, cs, h1, h2, h3, h4, h5, _⟩ := h
        simp at h1; omega
      subst this
      exact insert_grow h hpl x q hq hqb hlen hB
theorem below_drew' {m : Nat} {w W : World} (h : Below m w W) : Below m w W.drew := ⟨h.os, h.tape, h.output, h.size, h.block⟩
theorem ins_put (h : IsW w B g ks vs S now n) {i : Nat} (hi : i < 64) {w3 w' : World} (hb : Below w.heap.size w w3) {ys : List (Int × Int)} {e : Ending} (hP : InsPost w3 B ys (ks i) e w') (n' : Int) :
    ∃ A cap, e = .returned (.slice A ys.length cap) ∧ w3.grownBy w' (ks i) ∧
      WPost w B g ks (fun j => if j = i then ys else S j) now n' (.returned (.tuple #[])) ((w'.setCell ⟨g, i, none⟩ (.slice A ys.length cap)).setCell ⟨g, 65, none⟩ (.int .i64 n')) := by
  obtain ⟨v', k', rfl, hR, hk, hG⟩ := hP
  obtain ⟨A, cap, rfl⟩ := hR.form
  refine ⟨A, cap, rfl, hG, h.put_row hi ?_ hR ?_ n'⟩
  · exact (Turned.of_below hb).trans (Turned.of_grown hG) (fun k hk => .inl hk)
  · intro b hb'
    rcases hk with hk | hk
    · exact .inl (by rw [← hk, hb'])
    · rw [hk] at hb'
      cases hb'
      exact .inr hb.size
set_option maxHeartbeats 1000000 in
set_option maxRecDepth 100000 in
theorem put_c (h : IsW w B g ks vs S now n) (t : Int × Int) {i p : Nat} (hi : i < 64) (hti : t.2 % 64 = i) (ht0 : 0 ≤ t.2) (hp : p ≤ (S i).length) (hlo : ∀ j (hj : j < (S i).length), j < p → ordI (S i)[j] t < 0) (hhi : ∀ j (hj : j < (S i).length), p ≤ j → ¬ ordI (S i)[j] t < 0)
    (hlen : (S i).length < 1048576) (hn0 : 0 ≤ n) (hn1 : n < 1048576) (hB : B ≤ w.heap.size) :
    Calls Try.prog 21 #[.pointer (some ⟨g, 0, none⟩), .agg #[.int .i64 t.1, .int .i64 t.2]] w (WPost w B g ks (fun j => if j = i then (S i).take p ++ t :: (S i).drop p else S j) now (n + 1)) := by
  have HI : Aside (IsW w B g ks vs S now n) := h
  obtain ⟨A, cap, e2⟩ := (h.rows i hi).form
  have hgl : g < w.heap.size := (Array.getElem?_eq_some_iff.1 h.hg).1
  have hSE : Hid (∀ W, Below w.heap.size w W → Calls Try.prog 31 #[.slice A (S i).length cap, .agg #[.int .i64 t.1, .int .i64 t.2], .func (.func 32) #[] #[]] W fun e w' => (∃ f : Bool, e = .returned (.tuple #[.int .i64 p, .bool f])) ∧ Below W.heap.size W w') :=
    Lib.hid (fun W hW => by rw [← e2]; exact search_c ((h.rows i hi).below hW) t p hp hlo hhi)
  have hIN : Hid (∀ W, Below w.heap.size w W → ∀ q, W.heap[q]? = some (.cells #[.int .i64 t.1, .int .i64 t.2] 54 (0, 0)) → w.heap.size ≤ q → Calls Try.prog 33 #[.slice A (S i).length cap, .int .i64 p, .slice (some ⟨q, 0, none⟩) 1 1] W (InsPost W B ((S i).take p ++ t :: (S i).drop p) (ks i))) :=
    Lib.hid (fun W hW q hq hwq => by
      rw [← e2]
      refine insert_c ((h.rows i hi).below hW) t p q hp hq (fun e => ?_) hlen (Nat.le_trans hB hW.size)
      have hr := h.rows i hi
      rw [e] at hr
      have := hr.lt
      omega)
  have hc1 : w.cell? ⟨g, i, none⟩ = some (.slice A (S i).length cap) := (h.c hi).trans (by rw [e2])
  have hia := fun W => run_indexAt64 g i hi W
  have hfg : w.frozen? ⟨g, i, none⟩ = false := by simp only [World.frozen?, h.hg]; rfl
  have hcn := h.cn
  have hfn : w.frozen? ⟨g, 65, none⟩ = false := by simp only [World.frozen?, h.hg]; rfl
  have hne65 : ¬ i = 65 := by omega
  have hbg : Hid (∀ b, ks i = some b → b ≠ g) := Lib.hid (fun b e => h.ne_g hi e)
  clear h e2 hp hlo hhi
  obtain ⟨m, HM⟩ : ∃ m, Hid ((S i).length = m) := ⟨_, Lib.hid rfl⟩
  rw [HM.out] at hc1 hSE hIN hlen
  obtain ⟨t1, t2⟩ := t
  dsimp only at hti ht0 hSE hIN ⊢
  have htm : t2.tmod 64 = (i : Int) := by rw [Int.tmod_eq_emod_of_nonneg ht0, hti]
  clear hti
  go_enter Try.func21, Try.ntmps21
  go_wp2
  go_quiet (fail)
  go_wp2
  have hB0 : Below w.heap.size w ((w.alloc (.cells #[.int .i64 t1, .int .i64 t2] 54)).drewN nq) := below_drewN ((Below.refl _ _).alloc (Nat.le_refl _) _) _
  have d0 : ((w.alloc (.cells #[.int .i64 t1, .int .i64 t2] 54)).drewN nq).cell? ⟨w.heap.size, 0, none⟩ = some (.int .i64 t1) := (cell_of_row _ _ 0 _ _ _ (heap_alloc_new w _)).trans rfl
  have d1 : ((w.alloc (.cells #[.int .i64 t1, .int .i64 t2] 54)).drewN nq).cell? ⟨w.heap.size, 1, none⟩ = some (.int .i64 t2) := (cell_of_row _ _ 1 _ _ _ (heap_alloc_new w _)).trans rfl
  have hqs : w.heap.size < ((w.alloc (.cells #[.int .i64 t1, .int .i64 t2] 54)).drewN nq).heap.size := by simp [World.drewN]
  obtain ⟨W0, HW0⟩ : ∃ W0, (w.alloc (.cells #[.int .i64 t1, .int .i64 t2] 54)).drewN nq = W0 := ⟨_, rfl⟩
  rw [HW0] at hB0 d0 d1 hqs ⊢
  clear HW0
  have hgl0 : g < W0.heap.size := by omega
  have c1 := (hB0.cell (p := ⟨g, i, none⟩) hgl).trans hc1
  have f1 := (hB0.frozen (p := ⟨g, i, none⟩) hgl).trans hfg
  have c2 := (hB0.cell (p := ⟨g, 65, none⟩) hgl).trans hcn
  have f2 := (hB0.frozen (p := ⟨g, 65, none⟩) hgl).trans hfn
  have HB0 : Aside (Below w.heap.size w W0) := hB0
  have HX := Lib.hid (hSE.out W0.drew ⟨hB0.os, hB0.tape, hB0.output, hB0.size, hB0.block⟩)
  obtain ⟨q, HQ⟩ : ∃ q, Hid (w.heap.size = q) := ⟨_, Lib.hid rfl⟩
  rw [HQ.out] at d0 d1 hqs ⊢
  clear hc1 hfg hcn hfn hB0 hia htm
  go_region_held3 (fun W => W.cell? ⟨q, 0, none⟩ = some (.int .i64 t1) ∧ W.cell? ⟨q, 1, none⟩ = some (.int .i64 t2) ∧ W.cell? ⟨g, i, none⟩ = some (.slice A m cap) ∧ Below W0.heap.size W0 W)
    (first
      | exact ⟨d0, d1, c1, ⟨rfl, rfl, rfl, Nat.le_refl _, fun _ _ => rfl⟩⟩
      | (obtain ⟨s0, s1, s2, s3⟩ := ‹_ ∧ _ ∧ _ ∧ _›
         exact ⟨(hb'.cell (p := ⟨q, _, none⟩) (Nat.lt_of_lt_of_le hqs s3.size)).trans s0, (hb'.cell (p := ⟨q, _, none⟩) (Nat.lt_of_lt_of_le hqs s3.size)).trans s1, (hb'.cell (p := ⟨g, _, none⟩) (Nat.lt_of_lt_of_le hgl0 s3.size)).trans s2, s3.trans (hb'.mono s3.size)⟩)
      | go_keep)
    ((have hX := HX.out; go_fit hX; clear hX; rintro e w' hD; obtain ⟨⟨f, hE⟩, hb'⟩ := hD; subst hE))
  rename_i hH
  have d0' := hH.1
  have d1' := hH.2.1
  have c1' := hH.2.2.1
  have hBw : Below W0.heap.size W0 w' := hH.2.2.2
  clear hH hb' d0 d1 c1
  have c2' := (hBw.cell (p := ⟨g, 65, none⟩) hgl0).trans c2
  have f1' := (hBw.frozen (p := ⟨g, i, none⟩) hgl0).trans f1
  have f2' := (hBw.frozen (p := ⟨g, 65, none⟩) hgl0).trans f2
  have hqs' : q < w'.heap.size := Nat.lt_of_lt_of_le hqs hBw.size
  have hgl' : g < w'.heap.size := Nat.lt_of_lt_of_le hgl0 hBw.size
  have HB' : Aside (Below w.heap.size w w') := HB0.out.trans (hBw.mono HB0.out.size)
  clear hBw c2 f1 f2
  go_wp2
  have HB3 : Aside (Below w.heap.size w (w'.alloc (.cells #[.int .i64 t1, .int .i64 t2] 54)).drew) :=
    below_drew' (HB'.out.trans (((Below.refl _ _).alloc (Nat.le_refl _) _ : Below w'.heap.size w' (w'.alloc (.cells #[.int .i64 t1, .int .i64 t2] 54))).mono HB'.out.size))
  obtain ⟨yl, HYL⟩ : ∃ yl, Hid (((S i).take p ++ (t1, t2) :: (S i).drop p).length = yl) := ⟨_, Lib.hid rfl⟩
  have HX3 := Lib.hid (hIN.out _ HB3.out w'.heap.size (heap_alloc_new w' _) HB'.out.size)
  have hgl3 : g < (w'.alloc (.cells #[.int .i64 t1, .int .i64 t2] 54)).drew.heap.size := Nat.lt_of_lt_of_le hgl HB3.out.size
  have hgk : some g ≠ ks i := fun e => hbg.out g e.symm rfl
  have c13 := (HB3.out.cell (p := ⟨g, 65, none⟩) hgl).trans HI.out.cn
  have f13 : (w'.alloc (.cells #[.int .i64 t1, .int .i64 t2] 54)).drew.frozen? ⟨g, i, none⟩ = false := (HB3.out.frozen (p := ⟨g, i, none⟩) hgl).trans (by simp only [World.frozen?, HI.out.hg]; rfl)
  have f23 : (w'.alloc (.cells #[.int .i64 t1, .int .i64 t2] 54)).drew.frozen? ⟨g, 65, none⟩ = false := (HB3.out.frozen (p := ⟨g, 65, none⟩) hgl).trans (by simp only [World.frozen?, HI.out.hg]; rfl)
  have c03 : (w'.alloc (.cells #[.int .i64 t1, .int .i64 t2] 54)).drew.cell? ⟨g, i, none⟩ = some (vs i) := (HB3.out.cell (p := ⟨g, i, none⟩) hgl).trans (HI.out.c hi)
  have C13 := Lib.hid c13
  have F13 := Lib.hid f13
  have F23 := Lib.hid f23
  have C03 := Lib.hid c03
  clear c13 f13 f23 c03
  go_region_with ((have hX := HX3.out; go_fit hX; clear hX; rintro e w4 hP; obtain ⟨A', cap', hE, hG, hW⟩ := ins_put HI.out hi HB3.out hP (n + 1); rw [HYL.out] at hE hW; subst hE; have c4 := (hG.cell_far ⟨g, i, none⟩ hgl3 hgk).trans C03.out; have f4 := (hG.frozen_far ⟨g, i, none⟩ hgl3 hgk).trans F13.out; have c5 := (hG.cell_far ⟨g, 65, none⟩ hgl3 hgk).trans C13.out; have f5 := (hG.frozen_far ⟨g, 65, none⟩ hgl3 hgk).trans F23.out; have HW := Lib.hid hW; clear hW hG hP))
  all_goals
    clear d0' d1' c1' c2' f1' f2' c4 f4
    go_wp2
    go_end0
    exact HW.out
end Go.Proofs.Ytppefdodhbdlpaa.H
