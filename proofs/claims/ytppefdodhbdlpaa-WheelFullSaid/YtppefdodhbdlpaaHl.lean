import Derived.Test.YtppefdodhbdlpaaHk
import Derived.Deep.DeepFit
namespace Go.Proofs.Ytppefdodhbdlpaa.H
open Go.RowKit Go.Shelf
set_option linter.unusedVariables false
set_option linter.unusedSimpArgs false
variable {w : World} {B g : Nat} {ks : Nat → Option Nat} {vs : Nat → Value} {S : Nat → List (Int × Int)} {now n : Int}
theorem IsW.ne_g (h : IsW w B g ks vs S now n) {i b : Nat} (hi : i < 64) (hk : ks i = some b) : b ≠ g := by
  have hr := h.rows i hi
  rw [hk] at hr
  obtain ⟨cap, cs, _, _, hb, _⟩ := hr
  intro e
  subst e
  have := hb.symm.trans h.hg
  simp at this
def own (g : Nat) (ks : Nat → Option Nat) (j : Nat) : Prop := j = g ∨ ∃ i, i < 64 ∧ ks i = some j
def WPost (w : World) (B g : Nat) (ks : Nat → Option Nat) (S' : Nat → List (Int × Int)) (now n : Int) (e : Ending) (w' : World) : Prop :=
  e = .returned (.tuple #[]) ∧ ∃ ks' vs', IsW w' B g ks' vs' S' now n ∧ Turned w w' (own g ks) ∧ ∀ j, own g ks' j → own g ks j ∨ w.heap.size ≤ j
theorem setCell_turned {w : World} {g j : Nat} {cs : Array Value} {t : TypeId} {u : Value} (h : w.heap[g]? = some (.cells cs t (0, 0))) : Turned w (w.setCell ⟨g, j, none⟩ u) (fun k => k = g) := by
  rw [setCell_eq_setRow w g j cs t (0, 0) u h]
  exact ⟨rfl, rfl, rfl, by rw [setRow_size]; exact Nat.le_refl _, fun k hk hn => setRow_other w g k _ hn⟩
theorem IsW.put_row (h : IsW w B g ks vs S now n) {i : Nat} (hi : i < 64) {w' : World} (hT : Turned w w' (fun k => some k = ks i)) {v' : Value} {k' : Option Nat} {ys : List (Int × Int)} (hR : Row w' B v' ys k')
    (hk : ∀ b, k' = some b → ks i = some b ∨ w.heap.size ≤ b) (n' : Int) :
    WPost w B g ks (fun j => if j = i then ys else S j) now n' (.returned (.tuple #[])) ((w'.setCell ⟨g, i, none⟩ v').setCell ⟨g, 65, none⟩ (.int .i64 n')) := by
  have hgl : g < w.heap.size := (Array.getElem?_eq_some_iff.1 h.hg).1
  have hg0 : w'.heap[g]? = some (.cells (wcells vs now n).toArray 50 (0, 0)) := (hT.block g hgl (fun e => h.ne_g hi e.symm rfl)).trans h.hg
  have hg1 : (w'.setCell ⟨g, i, none⟩ v').heap[g]? = some (.cells (wcells (fun j => if j = i then v' else vs j) now n).toArray 50 (0, 0)) := by
    rw [setCell_heap hg0, List.setIfInBounds_toArray, wcells_set vs now n hi]
  have hg2 : ((w'.setCell ⟨g, i, none⟩ v').setCell ⟨g, 65, none⟩ (.int .i64 n')).heap[g]? = some (.cells (wcells (fun j => if j = i then v' else vs j) now n').toArray 50 (0, 0)) := by
    rw [setCell_heap hg1, List.setIfInBounds_toArray, wcells_set_n]
  have hT2 : Turned w' ((w'.setCell ⟨g, i, none⟩ v').setCell ⟨g, 65, none⟩ (.int .i64 n')) (fun k => k = g) := (setCell_turned hg0).trans (setCell_turned hg1) (fun k hk => .inl hk)
  have hnew : ∀ b, k' = some b → b ≠ g := fun b e => by
    rcases hk b e with h1 | h1
    · exact h.ne_g hi h1
    · omega
  refine ⟨rfl, fun j => if j = i then k' else ks j, _, ⟨hg2, h.hB, fun j hj => ?_, fun j j2 b hj hj2 hne hb => ?_⟩, ?_, fun j hj => ?_⟩
  · by_cases e : j = i
    · subst e; simp only [if_pos]
      exact hR.turned hT2 hnew
    · simp only [if_neg e]
      exact ((h.rows j hj).turned hT (fun b hb h2 => h.ne j i b hj hi e hb h2.symm)).turned hT2 (fun b hb => h.ne_g hj hb)
  · by_cases e : j = i
    · subst e
      simp only [if_pos] at hb
      rw [if_neg (Ne.symm hne)]
      intro h2
      rcases hk b hb with h1 | h1
      · exact h.ne j j2 b hj hj2 hne h1 h2
      · have hr := h.rows j2 hj2; rw [h2] at hr; have := hr.lt; omega
    · rw [if_neg e] at hb
      by_cases e2 : j2 = i
      · subst e2
        rw [if_pos rfl]
        intro h2
        rcases hk b h2 with h1 | h1
        · exact h.ne j j2 b hj hj2 hne hb h1
        · have hr := h.rows j hj; rw [hb] at hr; have := hr.lt; omega
      · rw [if_neg e2]; exact h.ne j j2 b hj hj2 hne hb
  · exact (hT.mono (T2 := own g ks) (fun k hk => .inr ⟨i, hi, hk.symm⟩)).trans hT2 (fun k hk => .inl (.inl hk))
  · rcases hj with rfl | ⟨i2, hi2, h2⟩
    · exact .inl (.inl rfl)
    · by_cases e : i2 = i
      · subst e
        simp only [if_pos] at h2
        rcases hk j h2 with h1 | h1
        · exact .inl (.inr ⟨i2, hi, h1⟩)
        · exact .inr h1
      · simp only [if_neg e] at h2; exact .inl (.inr ⟨i2, hi2, h2⟩)
set_option maxHeartbeats 1000000 in
set_option maxRecDepth 100000 in
theorem take_c (h : IsW w B g ks vs S now n) {i k : Nat} (hi : i < 64) (hk : k < (S i).length) (hn : 0 < n ∧ n ≤ 1048576) :
    Calls Try.prog 29 #[.pointer (some ⟨g, 0, none⟩), .int .i64 i, .int .i64 k] w (WPost w B g ks (fun j => if j = i then (S i).eraseIdx k else S j) now (n - 1)) := by
  obtain ⟨b, cap, e1, e2⟩ := (h.rows i hi).some_ hk
  obtain ⟨m, hm⟩ : ∃ m, (S i).length = m + 1 := ⟨(S i).length - 1, by omega⟩
  have hr := h.rows i hi
  rw [e1, e2, hm] at hr
  have hbg := h.ne_g hi e1
  have hcall : ∀ W, W.heap[b]? = w.heap[b]? → Calls Try.prog 41 #[.slice (some ⟨b, 0, none⟩) (m + 1) cap, .int .i64 k, .int .i64 ((k : Int) + 1)] W (DelPost W B b cap m ((S i).eraseIdx k)) := fun W hW => by
    refine delete_c hm ?_ (by omega)
    obtain ⟨cap2, cs, q1, q2, q3, q4⟩ := hr
    exact ⟨cap2, cs, q1, q2, hW.trans q3, q4⟩
  have hc1 : w.cell? ⟨g, i, none⟩ = some (.slice (some ⟨b, 0, none⟩) (m + 1) cap) := (h.c hi).trans (by rw [e2, hm])
  have hia := fun W => run_indexAt64 g i hi W
  have HI : Aside (IsW w B g ks vs S now n) := h
  have hkm : k < m + 1 := by omega
  have hgl : g < w.heap.size := (Array.getElem?_eq_some_iff.1 h.hg).1
  have hfg : w.frozen? ⟨g, i, none⟩ = false := by simp only [World.frozen?, h.hg]; rfl
  have hcn := h.cn
  have hfn : w.frozen? ⟨g, 65, none⟩ = false := by simp only [World.frozen?, h.hg]; rfl
  have hne65 : ¬ i = 65 := by omega
  have HK : Hid (ks i = some b) := Lib.hid e1
  obtain ⟨hn0, hn1⟩ := hn
  have hw1 : IntKind.i64.wrap ((k : Int) + 1) = (k : Int) + 1 := by rw [IntKind.wrap_i64]; have := hr.own.2.2; omega
  clear h hr e1 e2 hk hm
  have HC : Hid (∀ W, W.heap[b]? = w.heap[b]? → Calls Try.prog 41 #[.slice (some ⟨b, 0, none⟩) (m + 1) cap, .int .i64 k, .int .i64 ((k : Int) + 1)] W (DelPost W B b cap m ((S i).eraseIdx k))) := Lib.hid hcall
  clear hcall
  go_enter Try.func29, Try.ntmps29
  go_wp2
  have hX := HC.out w.drew rfl
  go_region_with ((go_fit hX; clear hX; rintro e w' hD; obtain ⟨hE, hR, hG⟩ := hD; subst hE; have hc2 := (hG.cell_far ⟨g, i, none⟩ hgl (fun e => hbg (by simpa using e.symm))).trans hc1; have hf2 := (hG.frozen_far ⟨g, i, none⟩ hgl (fun e => hbg (by simpa using e.symm))).trans hfg))
  have hc3 := (hG.cell_far ⟨g, 65, none⟩ hgl (fun e => hbg (by simpa using e.symm))).trans hcn
  have hf3 := (hG.frozen_far ⟨g, 65, none⟩ hgl (fun e => hbg (by simpa using e.symm))).trans hfn
  clear hc1 hfg hcn hfn hia
  have hP : Aside (WPost w B g ks (fun j => if j = i then (S i).eraseIdx k else S j) now (n - 1) (.returned (.tuple #[])) ((w'.setCell ⟨g, i, none⟩ (.slice (some ⟨b, 0, none⟩) m cap)).setCell ⟨g, 65, none⟩ (.int .i64 (n - 1)))) :=
    HI.out.put_row hi (w' := w') (by rw [HK.out]; exact Turned.of_grown ⟨hG.os, hG.tape, hG.output, hG.size, hG.block⟩) hR (fun b' e => .inl (by rw [HK.out, e])) (n - 1)
  clear hR hG hc2 hf2
  go_wp2
  go_end0
  exact hP.out
end Go.Proofs.Ytppefdodhbdlpaa.H
