import Derived.Test.YtppefdodhbdlpaaHu
namespace Go.Proofs.Ytppefdodhbdlpaa.H
open Go.RowKit Go.Shelf
set_option linter.unusedVariables false
set_option linter.unusedSimpArgs false
attribute [local go_sem] Oper.semAt_some
variable {w : World} {B g : Nat} {ks : Nat → Option Nat} {vs : Nat → Value} {S : Nat → List (Int × Int)} {now n : Int} {m r : List (Int × Int)} {t : Int × Int}
set_option maxRecDepth 100000 in
theorem turn_c (w : World) (g : Nat) (tick : Int) :
    Calls Try.prog 16 #[.pointer (some ⟨g, 0, none⟩), .int .i64 tick] w fun e w' => e = .returned (.func (.func 27) #[] #[.pointer (some ⟨w.heap.size, 0, none⟩), .pointer (some ⟨w.heap.size + 1, 0, none⟩)]) ∧ w' = (w.alloc (.cells #[.pointer (some ⟨g, 0, none⟩)] 22)).alloc (.cells #[.int .i64 tick] 3) := by
  go_enter Try.func16, Try.ntmps16
  go_wp2
  go_ret
  exact ⟨rfl, rfl⟩
theorem putObj_turned (w : World) (l : Nat) (o : Obj) : Turned w (w.putObj l o) (fun j => j = l) := ⟨rfl, rfl, rfl, by simp, fun k _ hn => World.putObj_heap_other hn⟩
theorem alloc_turned (w : World) (o : Obj) {T : Nat → Prop} : Turned w (w.alloc o) T := Turned.of_below ((Below.refl _ _).alloc (Nat.le_refl _) o)
theorem Wh.turned (h : Wh w B g ks m now) {w' : World} {T : Nat → Prop} (hT : Turned w w' T) (hn : ∀ j, T j → ¬ own g ks j) : Wh w' B g ks m now := by
  obtain ⟨hg, vs, hi⟩ := h
  have hgl := (Array.getElem?_eq_some_iff.1 hi.hg).1
  exact ⟨hg, vs, (hT.block g hgl (fun h => hn g h (.inl rfl))).trans hi.hg, hi.hB, fun i h64 => (hi.rows i h64).turned hT (fun b hb h2 => hn b h2 (.inr ⟨i, h64, hb⟩)), hi.ne⟩
/-- how a round's body may be left -/
def roundWord (Th : Nat → Prop) (I : Ks → List (Int × Int) → World → Prop) (Ix : Code → Ks → List (Int × Int) → World → Prop) (ks : Ks) (r : List (Int × Int)) (W : World) : Exit → Act → World → Prop
  | .normal, _, W' => Turned W W' Th ∧ I ks r W'
  | .ret, _, W' => Turned W W' Th ∧ Ix .ret ks r W'
  | .exit id, _, W' => Turned W W' Th ∧ Ix (.exit id) ks r W'
  | .goto t, _, W' => Turned W W' Th ∧ Ix (.goto t) ks r W'
  | .panic _, _, _ => False
  | .outgrown, _, _ => False
theorem range_turn {k : Nat} {gop : Operand} {ps : Array Tmp} {assign body : Code} {Q : Exit → Act → World → Prop} {a : Act} {bw bt : Nat} {tick : Int}
    (hg : a.eval gop = .func (.func 27) #[] #[.pointer (some ⟨bw, 0, none⟩), .pointer (some ⟨bt, 0, none⟩)]) (hps : ps.size = 2)
    (Th : Nat → Prop) (I : Ks → List (Int × Int) → World → Prop) (Ix : Code → Ks → List (Int × Int) → World → Prop)
    (hbox : ∀ ks m W, I ks m W → W.cell? ⟨bw, 0, none⟩ = some (.pointer (some ⟨g, 0, none⟩)) ∧ W.cell? ⟨bt, 0, none⟩ = some (.int .i64 tick))
    (hI : ∀ ks m W ks' W', I ks m W → Turned W W' (fun j => own g ks j ∨ w.heap.size ≤ j) → (∀ j, own g ks' j → own g ks j ∨ W.heap.size ≤ j) → w.heap.size ≤ W.heap.size → I ks' m W')
    (hIx : ∀ c ks m W W', Ix c ks m W → Turned W W' (fun j => w.heap.size ≤ j) → w.heap.size ≤ W.heap.size → Ix c ks m W')
    (hTh : ∀ ks m W, I ks m W → ∀ j, Th j → j < w.heap.size ∧ ¬ own g ks j)
    (hw : Wh w B g ks m now) (h0 : I ks m w) (a₁ : Int × Int → Act)
    (hassign : ∀ (l : Nat) (x : Int × Int) (W : World) (K : Act → World → Prop), K (a₁ x) W →
      assign.wpIn (Fence.wide.inRound l) k Try.prog (Exit.then K (fun _ _ _ => False)) { tmps := (ps.zip #[.int .i64 x.1, .int .i64 x.2]).foldl (fun t (p, v) => t.setIfInBounds p v) a.tmps, defers := [] } W)
    (hbody : ∀ (l : Nat) (ks : Ks) (t : Int × Int) (r : List (Int × Int)) (W : World), I ks (t :: r) W → Wh W B g ks r (nowAt now tick) → t.2 ≤ nowAt now tick → w.heap.size ≤ W.heap.size →
      body.wpIn (Fence.wide.inRound l) k Try.prog (roundWord Th I Ix ks r W) (a₁ t) W)
    (hdone : ∀ (D : Nat) (ks : Ks) (m : List (Int × Int)) (W : World), w.heap.size ≤ D → w.heap.size ≤ W.heap.size → W.heap[D]? = some (.deferred (some [])) → ¬ own g ks D → Wh W B g ks m (nowAt now tick) → I ks m W → (m = [] ∨ ∃ t r, m = t :: r ∧ nowAt now tick < t.2) →
      Q .normal { a with defers := { target := .collected D, args := #[] } :: a.defers } W)
    (hstop : ∀ (D : Nat) (c : Code) (ks : Ks) (m : List (Int × Int)) (W : World), w.heap.size ≤ D → w.heap.size ≤ W.heap.size → W.heap[D]? = some (.deferred (some [])) → ¬ own g ks D → Wh W B g ks m (nowAt now tick) → Ix c ks m W →
      c.wpIn Fence.wide (k + 1) Try.prog Q { a with defers := { target := .collected D, args := #[] } :: a.defers } W) :
    (Code.rangeFunc gop ps assign body).wpIn Fence.wide (k + 1) Try.prog Q a w := by
  refine wpIn_rangeFunc ?_
  intro fn hfn
  obtain ⟨rec, hrec⟩ : ∃ rec : LoopState → Option Code → Loop, rec = fun st pe => { state := st, pending := pe, fn, tmps := a.tmps, params := ps, assign, body, defers := w.heap.size } := ⟨_, rfl⟩
  obtain ⟨W1, hW1⟩ : ∃ W1, (w.alloc (.deferred (some []))).alloc (.loop (rec .ready none)) = W1 := ⟨_, rfl⟩
  have hL1 : W1.heap[w.heap.size + 1]? = some (.loop (rec .ready none)) := by
    rw [← hW1]; have := World.alloc_heap_new (w.alloc (.deferred (some []))) (.loop (rec .ready none)); rwa [World.size_alloc] at this
  have hK1 : W1.heap[w.heap.size]? = some (.deferred (some [])) := by
    rw [← hW1]; exact (Below.heap_alloc _ _ _ (by simp)).trans (World.alloc_heap_new w _)
  have hB1 : Below w.heap.size w W1 := by
    rw [← hW1]; exact ((Below.refl _ w).alloc (Nat.le_refl _) _).alloc (by simp) _
  have hI1 : I ks m W1 := hI ks m w ks W1 h0 (Turned.of_below hB1) (fun j hj => .inl hj) (Nat.le_refl _)
  have hw1 : Wh W1 B g ks m now := hw.below hB1
  have hn0 : ¬ own g ks w.heap.size := fun h => by have := hw.own_lt h; omega
  have hn1 : ¬ own g ks (w.heap.size + 1) := fun h => by have := hw.own_lt h; omega
  refine ⟨w.heap.size + 1, [{ target := .collected w.heap.size, args := #[] }], W1, { target := .fn (.func 27) #[.pointer (some ⟨bw, 0, none⟩), .pointer (some ⟨bt, 0, none⟩)], args := #[.func (.yield (w.heap.size + 1)) #[] #[]] }, W1, 27,
    #[.func (.yield (w.heap.size + 1)) #[] #[]] ++ #[.pointer (some ⟨bw, 0, none⟩), .pointer (some ⟨bt, 0, none⟩)], W1, ?_, ?_, ?_, ?_, fun h => by omega, ?_⟩
  · rw [← hW1, hrec]; exact run_enterLoop_outer _ _ _ _ _
  · simp only [resolve, hg]
    simp [go_sem]
  · intro f' hf'; exact trivial
  · have eg := enters_of Try.func27 (by kernel_rfl) rfl
    simp [invoke, go_sem, eg]
  · rw [Nat.add_sub_cancel]
    refine callsIn_wide.2 ((turn1_c (k := k) (J := fun ks m W => I ks m W ∧ W.heap[w.heap.size + 1]? = some (.loop (rec .ready none)) ∧ W.heap[w.heap.size]? = some (.deferred (some [])) ∧ ¬ own g ks w.heap.size ∧ ¬ own g ks (w.heap.size + 1) ∧ w.heap.size + 1 < W.heap.size)
      (Jx := fun ks m W => ∃ c, Ix c ks m W ∧ Wh W B g ks m (nowAt now tick) ∧ W.heap[w.heap.size + 1]? = some (.loop (rec .done (some c))) ∧ W.heap[w.heap.size]? = some (.deferred (some [])) ∧ ¬ own g ks w.heap.size ∧ w.heap.size + 1 < W.heap.size ∧ ¬ own g ks (w.heap.size + 1))
      (w.heap.size + 1) bw bt tick (fun ks m W h => hbox ks m W h.1) ?_ ?_ hw1 ⟨hI1, hL1, hK1, hn0, hn1, (Array.getElem?_eq_some_iff.1 hL1).1⟩).mono ?_)
    · -- the iterator's own steps
      rintro ks m W ks' W' ⟨hi, hl, hk, ho0, ho1, hsz⟩ hT hks
      refine ⟨hI ks m W ks' W' hi (hT.mono (fun j h => .inl h)) hks (by omega), (hT.block _ (by omega) ho1).trans hl, (hT.block _ (by omega) ho0).trans hk, fun h => ?_, fun h => ?_, by have := hT.size; omega⟩
      · rcases hks _ h with h | h
        · exact ho0 h
        · omega
      · rcases hks _ h with h | h
        · exact ho1 h
        · omega
    · -- one round
      rintro ks t r W ⟨hi, hl, hk, ho0, ho1, hsz⟩ hwW hle
      have hy := run_yield (P := Try.prog) (args := #[.int .i64 t.1, .int .i64 t.2]) hl (by rw [hrec]; exact hps.symm)
      rw [hrec] at hy
      refine ⟨fn, _, assign, body, hy, roundIn_of_wpIn hfn (hassign _ t W _ ⟨_, run_beginRound hl (by rw [hrec]), ?_⟩)⟩
      obtain ⟨W2, hW2⟩ : ∃ W2, W.putObj (w.heap.size + 1) (.loop { rec .ready none with state := .busy }) = W2 := ⟨_, rfl⟩
      have hT2 : Turned W W2 (fun j => w.heap.size + 1 = j) := by rw [← hW2]; exact (putObj_turned _ _ _).mono (fun j h => h.symm)
      have hl2 : W2.heap[w.heap.size + 1]? = some (.loop { rec .ready none with state := .busy }) := by rw [← hW2]; exact World.putObj_heap_same hsz
      have hk2 : W2.heap[w.heap.size]? = some (.deferred (some [])) := (hT2.block _ (by omega) (by omega)).trans hk
      have hi2 : I ks (t :: r) W2 := hI ks _ W ks W2 hi (hT2.mono (fun j h => .inr (by omega))) (fun j hj => .inl hj) (by omega)
      have hw2 : Wh W2 B g ks r (nowAt now tick) := hwW.turned hT2 (fun j h => by rw [← h]; exact ho1)
      have hs2 : W2.heap.size = W.heap.size := by rw [← hW2]; simp
      have hth := hTh ks _ W2 hi2
      rw [show (W.putObj (w.heap.size + 1) (.loop { rec .ready none with state := .busy })) = W2 from hW2]
      refine wpIn_mono (hbody _ ks t r W2 hi2 hw2 hle (by omega)) ?_
      have fin : ∀ (jump : Option Code) (W3 : World), Turned W2 W3 Th →
          (Instr.endRound (w.heap.size + 1) jump).run Try.prog W3 = .ok (.bool jump.isNone) (W3.putObj (w.heap.size + 1) (.loop (rec (if jump.isNone then .ready else .done) jump))) ∧
          (W3.putObj (w.heap.size + 1) (.loop (rec (if jump.isNone then .ready else .done) jump))).heap[w.heap.size + 1]? = some (.loop (rec (if jump.isNone then .ready else .done) jump)) ∧
          (W3.putObj (w.heap.size + 1) (.loop (rec (if jump.isNone then .ready else .done) jump))).heap[w.heap.size]? = some (.deferred (some [])) ∧
          Turned W3 (W3.putObj (w.heap.size + 1) (.loop (rec (if jump.isNone then .ready else .done) jump))) (fun j => w.heap.size + 1 = j) ∧ w.heap.size + 1 < W3.heap.size ∧
          Wh (W3.putObj (w.heap.size + 1) (.loop (rec (if jump.isNone then .ready else .done) jump))) B g ks r (nowAt now tick) := fun jump W3 hT3 => by
        have hl3 := (hT3.block _ (by omega) (fun h => by have := (hth _ h).1; omega)).trans hl2
        have hk3 := (hT3.block _ (by omega) (fun h => by have := (hth _ h).1; omega)).trans hk2
        have := run_endRound (P := Try.prog) jump hl3
        have hs3 := hT3.size
        have hT4 : Turned W3 (W3.putObj (w.heap.size + 1) (.loop (rec (if jump.isNone then .ready else .done) jump))) (fun j => w.heap.size + 1 = j) := (putObj_turned _ _ _).mono (fun j h => h.symm)
        have hw3 : Wh W3 B g ks r (nowAt now tick) := hw2.turned hT3 (fun j h => (hth j h).2)
        refine ⟨?_, World.putObj_heap_same (by omega), (hT4.block _ (by omega) (by omega)).trans hk3, hT4, by omega, hw3.turned hT4 (fun j h => by rw [← h]; exact ho1)⟩
        rw [hrec] at this ⊢
        exact this
      rintro e a3 W3 hp
      cases e with
      | normal =>
        obtain ⟨hT3, hi3⟩ := hp
        obtain ⟨hr, hl4, hk4, hT4, hs3, hw4⟩ := fin none W3 hT3
        exact ⟨_, _, hr, .inl ⟨rfl, ⟨hI ks r W3 ks _ hi3 (hT4.mono (fun j h => .inr (by omega))) (fun j hj => .inl hj) (by omega), hl4, hk4, ho0, ho1, by have := hT4.size; omega⟩, hw4⟩⟩
      | ret =>
        obtain ⟨hT3, hi3⟩ := hp
        obtain ⟨hr, hl4, hk4, hT4, hs3, hw4⟩ := fin (some .ret) W3 hT3
        exact ⟨_, _, hr, .inr ⟨rfl, .ret, hIx _ ks r W3 _ hi3 (hT4.mono (fun j h => by omega)) (by omega), hw4, hl4, hk4, ho0, by have := hT4.size; omega, ho1⟩⟩
      | exit id =>
        obtain ⟨hT3, hi3⟩ := hp
        obtain ⟨hr, hl4, hk4, hT4, hs3, hw4⟩ := fin (some (.exit id)) W3 hT3
        exact ⟨_, _, hr, .inr ⟨rfl, .exit id, hIx _ ks r W3 _ hi3 (hT4.mono (fun j h => by omega)) (by omega), hw4, hl4, hk4, ho0, by have := hT4.size; omega, ho1⟩⟩
      | goto t =>
        obtain ⟨hT3, hi3⟩ := hp
        obtain ⟨hr, hl4, hk4, hT4, hs3, hw4⟩ := fin (some (.goto t)) W3 hT3
        exact ⟨_, _, hr, .inr ⟨rfl, .goto t, hIx _ ks r W3 _ hi3 (hT4.mono (fun j h => by omega)) (by omega), hw4, hl4, hk4, ho0, by have := hT4.size; omega, ho1⟩⟩
      | panic ch => exact hp.elim
      | outgrown => exact hp.elim
    · -- behind the iterator
      rintro e W2 ⟨rfl, (⟨ks2, m2, hw2, ⟨hi, hl, hk, ho0, ho1, hsz⟩, hend⟩ | ⟨ks2, m2, c, hi, hw2, hl, hk, ho0, hsz, ho1⟩)⟩
      · have hT4 : Turned W2 (W2.putObj (w.heap.size + 1) (.loop { rec .ready none with state := .exhausted })) (fun j => w.heap.size + 1 = j) := (putObj_turned _ _ _).mono (fun j h => h.symm)
        refine ⟨none, _, by have := run_endLoop (P := Try.prog) hl (by rw [hrec]; simp); rw [hrec] at this ⊢; exact this, hdone _ ks2 m2 _ (Nat.le_refl _) (by have := hT4.size; omega) ((hT4.block _ (by omega) (by omega)).trans hk) ho0 (hw2.turned hT4 (fun j h => by rw [← h]; exact ho1)) (hI ks2 m2 W2 ks2 _ hi (hT4.mono (fun j h => .inr (by omega))) (fun j hj => .inl hj) (by omega)) hend⟩
      · have hT4 : Turned W2 (W2.putObj (w.heap.size + 1) (.loop { rec .done (some c) with state := .exhausted })) (fun j => w.heap.size + 1 = j) := (putObj_turned _ _ _).mono (fun j h => h.symm)
        refine ⟨some c, _, by have := run_endLoop (P := Try.prog) hl (by rw [hrec]; simp); rw [hrec] at this ⊢; exact this, hstop _ c ks2 m2 _ (Nat.le_refl _) (by have := hT4.size; omega) ((hT4.block _ (by omega) (by omega)).trans hk) ho0 (hw2.turned hT4 (fun j h => by rw [← h]; exact ho1)) (hIx c ks2 m2 W2 _ hi (hT4.mono (fun j h => by omega)) (by omega))⟩
end Go.Proofs.Ytppefdodhbdlpaa.H
