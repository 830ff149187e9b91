import Derived.Test.YtppefdodhbdlpaaVHu
namespace Go.Proofs.Ytppefdodhbdlpaa.H
open Go.RowKit Go.Shelf
set_option linter.unusedVariables false
set_option linter.unusedSimpArgs false
attribute [local go_sem] Oper.semAt_some
variable {w : World} {B g : Nat} {ks : Nat → Option Nat} {vs : Nat → Value} {S : Nat → List (Int × Int)} {now n : Int} {m r : List (Int × Int)} {t : Int × Int}
set_option maxRecDepth 100000 in
theorem turn_c (w : World) (g : Nat) (tick : Int) :
    Calls Try.prog 16 #[.pointer (some ⟨g, 0, none⟩), .int .i64 tick] w fun e w' => e = .returned (.func (.func 27) #[] #[.pointer (some ⟨w.heap.size, 0, none⟩), .pointer (some ⟨w.heap.size + 1, 0, none⟩)]) ∧ w' = (w.alloc (.cells #[.pointer (some ⟨g, 0, none⟩)] 22)).alloc (.cells #[.int .i64 tick] 3) := by
  go_enter Try.func16, Try.ntmps16
  go_wp2
  go_ret
  exact ⟨rfl, rfl⟩
theorem putObj_turned (w : World) (l : Nat) (o : Obj) : Turned w (w.putObj l o) (fun j => j = l) := ⟨rfl, rfl, rfl, by simp, fun k _ hn => World.putObj_heap_other hn⟩
theorem alloc_turned (w : World) (o : Obj) {T : Nat → Prop} : Turned w (w.alloc o) T := Turned.of_below ((Below.refl _ _).alloc (Nat.le_refl _) o)
theorem Wh.turned (h : Wh w B g ks m now) {w' : World} {T : Nat → Prop} (hT : Turned w w' T) (hn : ∀ j, T j → ¬ own g ks j) : Wh w' B g ks m now := by
  obtain ⟨hg, vs, hi⟩ := h
  have hgl := (Array.getElem?_eq_some_iff.1 hi.hg).1
  exact ⟨hg, vs, (hT.block g hgl (fun h => hn g h (.inl rfl))).trans hi.hg, hi.hB, fun i h64 => (hi.rows i h64).turned hT (fun b hb h2 => hn b h2 (.inr ⟨i, h64, hb⟩)), hi.ne⟩
/-- how a round's body may be left -/
def roundWord (Th : Nat → Prop) (I : Ks → List (Int × Int) → World → Prop) (Ix : Code → Ks → List (Int × Int) → World → Prop) (ks : Ks) (r : List (Int × Int)) (W : World) : Exit → Act → World → Prop
  | .normal, _, W' => Turned W W' Th ∧ I ks r W'
  | .ret, _, W' => Turned W W' Th ∧ Ix .ret ks r W'
  | .exit id, _, W' => Turned W W' Th ∧ Ix (.exit id) ks r W'
  | .goto t, _, W' => Turned W W' Th ∧ Ix (.goto t) ks r W'
  | .panic _, _, _ => False
  | .outgrown, _, _ => False
theorem range_turn {k : Nat} {gop : Operand} {ps : Array Tmp} {assign body : Code} {Q : Exit → Act → World → Prop} {a : Act} {bw bt : Nat} {tick : Int}
    (hg : a.eval gop = .func (.func 27) #[] #[.pointer (some ⟨bw, 0, none⟩), .pointer (some ⟨bt, 0, none⟩)]) (hps : ps.size = 2)
    (Th : Nat → Prop) (I : Ks → List (Int × Int) → World → Prop) (Ix : Code → Ks → List (Int × Int) → World → Prop)
    (hbox : ∀ ks m W, I ks m W → W.cell? ⟨bw, 0, none⟩ = some (.pointer (some ⟨g, 0, none⟩)) ∧ W.cell? ⟨bt, 0, none⟩ = some (.int .i64 tick))
    (hI : ∀ ks m W ks' W', I ks m W → Turned W W' (fun j => own g ks j ∨ w.heap.size ≤ j) → (∀ j, own g ks' j → own g ks j ∨ W.heap.size ≤ j) → w.heap.size ≤ W.heap.size → I ks' m W')
    (hIx : ∀ c ks m W W', Ix c ks m W → Turned W W' (fun j => w.heap.size ≤ j) → w.heap.size ≤ W.heap.size → Ix c ks m W')
    (hTh : ∀ ks m W, I ks m W → ∀ j, Th j → j < w.heap.size ∧ ¬ own g ks j)
    (hw : Wh w B g ks m now) (h0 : I ks m w) (a₁ : Int × Int → Act)
    (hassign : ∀ (l : Nat) (x : Int × Int) (W : World) (K : Act → World → Prop), K (a₁ x) W →
      assign.wpIn (Fence.wide.inRound l) k Try.prog (Exit.then K (fun _ _ _ => False)) { tmps := (ps.zip #[.int .i64 x.1, .int .i64 x.2]).foldl (fun t (p, v) => t.setIfInBounds p v) a.tmps, defers := [] } W)
    (hbody : ∀ (l : Nat) (ks : Ks) (t : Int × Int) (r : List (Int × Int)) (W : World), I ks (t :: r) W → Wh W B g ks r (nowAt now tick) → t.2 ≤ nowAt now tick → w.heap.size ≤ W.heap.size →
      body.wpIn (Fence.wide.inRound l) k Try.prog (roundWord Th I Ix ks r W) (a₁ t) W)
    (hdone : ∀ (D : Nat) (ks : Ks) (m : List (Int × Int)) (W : World), w.heap.size ≤ D → w.heap.size ≤ W.heap.size → W.heap[D]? = some (.deferred (some [])) → ¬ own g ks D → Wh W B g ks m (nowAt now tick) → I ks m W → (m = [] ∨ ∃ t r, m = t :: r ∧ nowAt now tick < t.2) →
      Q .normal { a with defers := { target := .collected D, args := #[] } :: a.defers } W)
    (hstop : ∀ (D : Nat) (c : Code) (ks : Ks) (m : List (Int × Int)) (W : World), w.heap.size ≤ D → w.heap.size ≤ W.heap.size → W.heap[D]? = some (.deferred (some [])) → ¬ own g ks D → Wh W B g ks m (nowAt now tick) → Ix c ks m W →
      c.wpIn Fence.wide (k + 1) Try.prog Q { a with defers := { target := .collected D, args := #[] } :: a.defers } W) :
    (Code.rangeFunc gop ps assign body).wpIn Fence.wide (k + 1) Try.prog Q a w := by
  refine wpIn_rangeFunc ?_
  intro fn hfn
  obtain ⟨rec, hrec⟩ : ∃ rec : LoopState → Option Code → Loop, rec = fun st pe => { state := st, pending := pe, fn, tmps := a.tmps, params := ps, assign, body, defers := w.heap.size } := ⟨_, rfl⟩
  obtain ⟨W1, hW1⟩ : ∃ W1, (w.alloc (.deferred (some []))).alloc (.loop (rec .ready none)) = W1 := ⟨_, rfl⟩
  have hL1 : W1.heap[w.heap.size + 1]? = some (.loop (rec .ready none)) := by
    rw [← hW1]; have := World.alloc_heap_new (w.alloc (.deferred (some []))) (.loop (rec .ready none)); rwa [World.size_alloc] at this
  have hK1 : W1.heap[w.heap.size]? = some (.deferred (some [])) := by
    rw [← hW1]; exact (Below.heap_alloc _ _ _ (by simp)).trans (World.alloc_heap_new w _)
  have hB1 : Below w.heap.size w W1 := by
    rw [← hW1]; exact ((Below.refl _ w).alloc (Nat.le_refl _) _).alloc (by simp) _
  have hI1 : I ks m W1 := hI ks m w ks W1 h0 (Turned.of_below hB1) (fun j hj => .inl hj) (Nat.le_refl _)
  have hw1 : Wh W1 B g ks m now := hw.below hB1
  have hn0 : ¬ own g ks w.heap.size := fun h => by have := hw.own_lt h; omega
  have hn1 : ¬ own g ks (w.heap.size + 1) := fun h => by have := hw.own_lt h; omega
  refine ⟨w.heap.size + 1, [{ target := .collected w.heap.size, args := #[] }], W1, { target := .fn (.func 27) #[.pointer (some ⟨bw, 0, none⟩), .pointer (some ⟨bt, 0, none⟩)], args := #[.func (.yield (w.heap.size + 1)) #[] #[]] }, W1, 27,
    #[.func (.yield (w.heap.size + 1)) #[] #[]] ++ #[.pointer (some ⟨bw, 0, none⟩), .pointer (some ⟨bt, 0, none⟩)], W1, ?_, ?_, ?_, ?_, fun h => by omega, ?_⟩
  · rw [← hW1, hrec]; exact run_enterLoop_outer _ _ _ _ _
  · simp only [resolve, hg]
    simp [go_sem]
  · intro f' hf'; exact trivial
  · have eg := enters_of Try.func27 (by kernel_rfl) rfl
    simp [invoke, go_sem, eg]
  · rw [Nat.add_sub_cancel]
    refine callsIn_wide.2 ((turn1_c (k := k) (J := fun ks m W => I ks m W ∧ W.heap[w.heap.size + 1]? = some (.loop (rec .ready none)) ∧ W.heap[w.heap.size]? = some (.deferred (some [])) ∧ ¬ own g ks w.heap.size ∧ ¬ own g ks (w.heap.size + 1) ∧ w.heap.size + 1 < W.heap.size)
      (Jx := fun ks m W => ∃ c, Ix c ks m W ∧ Wh W B g ks m (nowAt now tick) ∧ W.heap[w.heap.size + 1]? = some (.loop (rec .done (some c))) ∧ W.heap[w.heap.size]? = some (.deferred (some [])) ∧ ¬ own g ks w.heap.size ∧ w.heap.size + 1 < W.heap.size ∧ ¬ own g ks (w.heap.size + 1))
      (w.heap.size + 1) bw bt tick (fun ks m W h => hbox ks m W h.1) ?_ ?_ hw1 ⟨hI1, hL1, hK1, hn0, hn1, (Array.getElem?_eq_some_iff.1 hL1).1⟩).mono ?_)
    · -- the iterator's own steps
      rintro ks m W ks' W' ⟨hi, hl, hk, ho0, ho1, hsz⟩ hT hks
      refine ⟨hI ks m W ks' W' hi (hT.mono (fun j h => .inl h)) hks (by omega), (hT.block _ (by omega) ho1).trans hl, (hT.block _ (by omega) ho0).trans hk, fun h => ?_, fun h => ?_, by have := hT.size; omega⟩
      · rcases hks _ h with h | h
        · exact ho0 h
        · omega
      · rcases hks _ h with h | h
        · exact ho1 h
        · omega
    · -- one round
      rintro ks t r W ⟨hi, hl, hk, ho0, ho1, hsz⟩ hwW hle
      have hy := run_yield (P := Try.prog) (args := #[.int .i64 t.1, .int .i64 t.2]) hl (by rw [hrec]; exact hps.symm)
      rw [hrec] at hy
      refine ⟨fn, _, assign, body, hy, roundIn_of_wpIn hfn (hassign _ t W _ ⟨_, run_beginRound hl (by rw [hrec]), ?_⟩)⟩
      obtain ⟨W2, hW2⟩ : ∃ W2, W.putObj (w.heap.size + 1) (.loop { rec .ready none with state := .busy }) = W2 := ⟨_, rfl⟩
      have hT2 : Turned W W2 (fun j => w.heap.size + 1 = j) := by rw [← hW2]; exact (putObj_turned _ _ _).mono (fun j h => h.symm)
      have hl2 : W2.heap[w.heap.size + 1]? = some (.loop { rec .ready none with state := .busy }) := by rw [← hW2]; exact World.putObj_heap_same hsz
      have hk2 : W2.heap[w.heap.size]? = some (.deferred (some [])) := (hT2.block _ (by omega) (by omega)).trans hk
      have hi2 : I ks (t :: r) W2 := hI ks _ W ks W2 hi (hT2.mono (fun j h => .inr (by omega))) (fun j hj => .inl hj) (by omega)
      have hw2 : Wh W2 B g ks r (nowAt now tick) := hwW.turned hT2 (fun j h => by rw [← h]; exact ho1)
      have hs2 : W2.heap.size = W.heap.size := by rw [← hW2]; simp
      have hth := hTh ks _ W2 hi2
      rw [show (W.putObj (w.heap.size + 1) (.loop { rec .ready none with state := .busy })) = W2 from hW2]
      refine wpIn_mono (hbody _ ks t r W2 hi2 hw2 hle (by omega)) ?_
      have fin : ∀ (jump : Option Code) (W3 : World), Turned W2 W3 Th →
          (Instr.endRound (w.heap.size + 1) jump).run Try.prog W3 = .ok (.bool jump.isNone) (W3.putObj (w.heap.size + 1) (.loop (rec (if jump.isNone then .ready else .done) jump))) ∧
          (W3.putObj (w.heap.size + 1) (.loop (rec (if jump.isNone then .ready else .done) jump))).heap[w.heap.size + 1]? = some (.loop (rec (if jump.isNone then .ready else .done) jump)) ∧
          (W3.putObj (w.heap.size + 1) (.loop (rec (if jump.isNone then .ready else .done) jump))).heap[w.heap.size]? = some (.deferred (some [])) ∧
          Turned W3 (W3.putObj (w.heap.size + 1) (.loop (rec (if jump.isNone then .ready else .done) jump))) (fun j => w.heap.size + 1 = j) ∧ w.heap.size + 1 < W3.heap.size ∧
          Wh (W3.putObj (w.heap.size + 1) (.loop (rec (if jump.isNone then .ready else .done) jump))) B g ks r (nowAt now tick) := fun jump W3 hT3 => by
        have hl3 := (hT3.block _ (by omega) (fun h => by have := (hth _ h).1; omega)).trans hl2
        have hk3 := (hT3.block _ (by omega) (fun h => by have := (hth _ h).1; omega)).trans hk2
        have := run_endRound (P := Try.prog) jump hl3
        have hs3 := hT3.size
        have hT4 : Turned W3 (W3.putObj (w.heap.size + 1) (.loop (rec (if jump.isNone then .ready else .done) jump))) (fun j => w.heap.size + 1 = j) := (putObj_turned _ _ _).mono (fun j h => h.symm)
        have hw3 : Wh W3 B g ks r (nowAt now tick) := hw2.turned hT3 (fun j h => (hth j h).2)
        refine ⟨?_, World.putObj_heap_same (by omega), (hT4.block _ (by omega) (by omega)).trans hk3, hT4, by omega, hw3.turned hT4 (fun j h => by rw [← h]; exact ho1)⟩
        rw [hrec] at this ⊢
        exact this
      rintro e a3 W3 hp
      cases e with
      | normal =>
        obtain ⟨hT3, hi3⟩ := hp
        obtain ⟨hr, hl4, hk4, hT4, hs3, hw4⟩ := fin none W3 hT3
        exact ⟨_, _, hr, .inl ⟨rfl, ⟨hI ks r W3 ks _ hi3 (hT4.mono (fun j h => .inr (by omega))) (fun j hj => .inl hj) (by omega), hl4, hk4, ho0, ho1, by have := hT4.size; omega⟩, hw4⟩⟩
      | ret =>
        obtain ⟨hT3, hi3⟩ := hp
        obtain ⟨hr, hl4, hk4, hT4, hs3, hw4⟩ := fin (some .ret) W3 hT3
        exact ⟨_, _, hr, .inr ⟨rfl, .ret, hIx _ ks r W3 _ hi3 (hT4.mono (fun j h => by omega)) (by omega), hw4, hl4, hk4, ho0, by have := hT4.size; omega, ho1⟩⟩
      | exit id =>
        obtain ⟨hT3, hi3⟩ := hp
        obtain ⟨hr, hl4, hk4, hT4, hs3, hw4⟩ := fin (some (.exit id)) W3 hT3
        exact ⟨_, _, hr, .inr ⟨rfl, .exit id, hIx _ ks r W3 _ hi3 (hT4.mono (fun j h => by omega)) (by omega), hw4, hl4, hk4, ho0, by have := hT4.size; omega, ho1⟩⟩
      | goto t =>
        obtain ⟨hT3, hi3⟩ := hp
        obtain ⟨hr, hl4, hk4, hT4, hs3, hw4⟩ := fin (some (.goto t)) W3 hT3
        exact ⟨_, _, hr, .inr ⟨rfl, .goto t, hIx _ ks r W3 _ hi3 (hT4.mono (fun j h => by omega)) (by omega), hw4, hl4, hk4, ho0, by have := hT4.size; omega, ho1⟩⟩
      | panic ch => exact hp.elim
      | outgrown => exact hp.elim
    · -- behind the iterator
      rintro e W2 ⟨rfl, (⟨ks2, m2, hw2, ⟨hi, hl, hk, ho0, ho1, hsz⟩, hend⟩ | ⟨ks2, m2, c, hi, hw2, hl, hk, ho0, hsz, ho1⟩)⟩
      · have hT4 : Turned W2 (W2.putObj (w.heap.size + 1) (.loop { rec .ready none with state := .exhausted })) (fun j => w.heap.size + 1 = j) := (putObj_turned _ _ _).mono (fun j h => h.symm)
        refine ⟨none, _, by have := run_endLoop (P := Try.prog) hl (by rw [hrec]; simp); rw [hrec] at this ⊢; exact this, hdone _ ks2 m2 _ (Nat.le_refl _) (by have := hT4.size; omega) ((hT4.block _ (by omega) (by omega)).trans hk) ho0 (hw2.turned hT4 (fun j h => by rw [← h]; exact ho1)) (hI ks2 m2 W2 ks2 _ hi (hT4.mono (fun j h => .inr (by omega))) (fun j hj => .inl hj) (by omega)) hend⟩
      · have hT4 : Turned W2 (W2.putObj (w.heap.size + 1) (.loop { rec .done (some c) with state := .exhausted })) (fun j => w.heap.size + 1 = j) := (putObj_turned _ _ _).mono (fun j h => h.symm)
        refine ⟨some c, _, by have := run_endLoop (P := Try.prog) hl (by rw [hrec]; simp); rw [hrec] at this ⊢; exact this, hstop _ c ks2 m2 _ (Nat.le_refl _) (by have := hT4.size; omega) ((hT4.block _ (by omega) (by omega)).trans hk) ho0 (hw2.turned hT4 (fun j h => by rw [← h]; exact ho1)) (hIx c ks2 m2 W2 _ hi (hT4.mono (fun j h => by omega)) (by omega))⟩
end Go.Proofs.Ytppefdodhbdlpaa.H
namespace Go.Proofs.Ytppefdodhbdlpaa.H
open Go.RowKit Go.Shelf
set_option linter.unusedVariables false
set_option linter.unusedSimpArgs false
attribute [local go_sem] Oper.semAt_some
variable {w : World} {B g : Nat} {ks : Nat → Option Nat} {vs : Nat → Value} {S : Nat → List (Int × Int)} {now n : Int} {m r : List (Int × Int)} {t : Int × Int}
def noks : Ks := fun _ => none
theorem wh_new (w : World) : Wh (w.alloc (.cells (wcells (fun _ => .slice none 0 0) 0 0).toArray 50)) w.heap.size w.heap.size noks [] 0 :=
  ⟨good_nil, _, ⟨heap_alloc_new w _, Nat.le_refl _, fun i hi => ⟨rfl, rfl⟩, fun i j b _ _ _ h => by cases h⟩⟩
theorem own_noks {g j : Nat} (h : own g noks j) : j = g := by
  rcases h with h | ⟨i, _, h⟩
  · exact h
  · cases h
structure At (w W : World) (B g : Nat) (ks : Ks) (m : List (Int × Int)) (now : Int) : Prop where
  wh : Wh W B g ks m now
  below : Below w.heap.size w W
  own : ∀ j, own g ks j → w.heap.size ≤ j
theorem At.step {W W' : World} {v : Value} {m' : List (Int × Int)} {now' : Int} {e : Ending} (h : At w W B g ks m now) (hP : WP W B g ks v m' now' e W') : e = .returned v ∧ ∃ ks', At w W' B g ks' m' now' := by
  obtain ⟨rfl, ks', hw, hT, ho⟩ := hP
  refine ⟨rfl, ks', hw, h.below.trans (hT.below h.own h.below.size), fun j hj => ?_⟩
  rcases ho j hj with h2 | h2
  · exact h.own j h2
  · exact Nat.le_trans h.below.size h2
theorem At.blw {W W' : World} (h : At w W B g ks m now) (hb : Below W.heap.size W W') : At w W' B g ks m now :=
  ⟨h.wh.below hb, h.below.trans (hb.mono h.below.size), h.own⟩
theorem new_at (w : World) : Calls Try.prog 7 #[] w fun e w' => e = .returned (.pointer (some ⟨w.heap.size, 0, none⟩)) ∧ At w w' w.heap.size w.heap.size noks [] 0 := by
  refine (new_c w).mono ?_
  rintro e w' ⟨rfl, rfl⟩
  exact ⟨rfl, wh_new w, (Below.refl _ _).alloc (Nat.le_refl _) _, fun j hj => by rw [own_noks hj]; exact Nat.le_refl _⟩
theorem a1 : setE [] 1 5 = 0 ∧ setM [] 1 5 = [(1, 5)] := by decide
theorem a2 : setE [(1, 5)] 2 3 = 0 ∧ setM [(1, 5)] 2 3 = [(2, 3), (1, 5)] := by decide
theorem a3 : setE [(2, 3), (1, 5)] 2 9 = 13 ∧ setM [(2, 3), (1, 5)] 2 9 = [(2, 3), (1, 5)] := by decide
theorem a4 : stopE [(2, 3), (1, 5)] 7 = 14 ∧ del [(2, 3), (1, 5)] 7 = [(2, 3), (1, 5)] := by decide
theorem set_at {W : World} (h : At w W B g ks m now) (id tick : Int) (hB : B ≤ w.heap.size) {E : Int} {M : List (Int × Int)} (hE : setE m id tick = E ∧ setM m id tick = M) :
    Calls Try.prog 9 #[.pointer (some ⟨g, 0, none⟩), .int .i64 id, .int .i64 tick] W fun e w' => e = .returned (.int .i64 E) ∧ ∃ ks', At w w' B g ks' M now := by
  have := set_c h.wh id tick (Nat.le_trans hB h.below.size)
  rw [hE.1, hE.2] at this
  exact this.mono (fun e w' hP => h.step hP)
theorem stop_at {W : World} (h : At w W B g ks m now) (id : Int) {E : Int} {M : List (Int × Int)} (hE : stopE m id = E ∧ del m id = M) :
    Calls Try.prog 18 #[.pointer (some ⟨g, 0, none⟩), .int .i64 id] W fun e w' => e = .returned (.int .i64 E) ∧ ∃ ks', At w w' B g ks' M now := by
  have := stop_c h.wh id
  rw [hE.1, hE.2] at this
  exact this.mono (fun e w' hP => h.step hP)
structure AI (w : World) (g z : Nat) (ks : Ks) (m : List (Int × Int)) (W : World) : Prop where
  c0 : ∃ last, W.heap[z]? = some (.cells #[.int .i64 last] 3 (0, 0)) ∧ (m = [(2, 3), (1, 5)] ∧ last = 0 ∨ m = [(1, 5)] ∧ last = 2)
  c1 : W.heap[z + 1]? = some (.cells #[.pointer (some ⟨g, 0, none⟩)] 22 (0, 0))
  c2 : W.heap[z + 1 + 1]? = some (.cells #[.int .i64 4] 3 (0, 0))
  no : ∀ j, own g ks j → j < z ∨ z + 3 ≤ j
  low : ∀ j, own g ks j → w.heap.size ≤ j
  below : Below w.heap.size w W
theorem AI.next {w : World} {g z : Nat} {ks ks' : Ks} {m : List (Int × Int)} {W W' : World} (h : AI w g z ks m W) (hz : w.heap.size ≤ z) (hs : z + 3 ≤ W.heap.size) (hT : Turned W W' (fun j => own g ks j ∨ z + 3 ≤ j)) (ho : ∀ j, own g ks' j → own g ks j ∨ W.heap.size ≤ j) : AI w g z ks' m W' := by
  obtain ⟨⟨last, c0, hl⟩, c1, c2, no, low, hb⟩ := h
  have key : ∀ j, z ≤ j → j < z + 3 → ¬ (own g ks j ∨ z + 3 ≤ j) := fun j h1 h2 h3 => by
    rcases h3 with h3 | h3
    · have := no j h3; omega
    · omega
  refine ⟨⟨last, (hT.block _ (by omega) (key _ (by omega) (by omega))).trans c0, hl⟩, (hT.block _ (by omega) (key _ (by omega) (by omega))).trans c1, (hT.block _ (by omega) (key _ (by omega) (by omega))).trans c2, fun j hj => ?_, fun j hj => ?_, hb.trans (hT.below (fun j hj => ?_) hb.size)⟩
  · rcases ho j hj with h | h
    · exact no j h
    · exact .inr (by omega)
  · rcases ho j hj with h | h
    · exact low j h
    · omega
  · rcases hj with h | h
    · exact low j h
    · omega
theorem len_wh (h : Wh w B g ks m now) : Calls Try.prog 10 #[.pointer (some ⟨g, 0, none⟩)] w fun e w' => e = .returned (.int .i64 m.length) ∧ w = w' := by
  obtain ⟨_, vs, h⟩ := h; exact len_c h
theorem now_wh (h : Wh w B g ks m now) : Calls Try.prog 19 #[.pointer (some ⟨g, 0, none⟩)] w fun e w' => e = .returned (.int .i64 now) ∧ w = w' := by
  obtain ⟨_, vs, h⟩ := h; exact now_c h
theorem putObj_below {w W : World} (hb : Below w.heap.size w W) {D : Nat} (hD : w.heap.size ≤ D) (o : Obj) : Below w.heap.size w (W.putObj D o) :=
  hb.trans ((putObj_turned W D o).below (fun j hj => by rw [hj]; exact hD) hb.size)
theorem AI.wrote {w : World} {g z : Nat} {ks : Ks} {r : List (Int × Int)} {W : World} (h : AI w g z ks ((2, 3) :: r) W) (hz : w.heap.size ≤ z) : Turned W (W.setCell ⟨z, 0, none⟩ (.int .i64 2)) (fun j => j = z) ∧ AI w g z ks r (W.setCell ⟨z, 0, none⟩ (.int .i64 2)) := by
  obtain ⟨⟨last, c0, hl⟩, c1, c2, no, low, hb⟩ := h
  have hT := setCell_turned (j := 0) (u := .int .i64 2) c0
  have hr : r = [(1, 5)] := by
    rcases hl with ⟨hm, _⟩ | ⟨hm, _⟩
    · simpa using hm
    · simp at hm
  subst hr
  refine ⟨hT, ⟨2, setCell_heap c0, .inr ⟨rfl, rfl⟩⟩, (hT.block _ (Array.getElem?_eq_some_iff.1 c1).1 (by omega)).trans c1, (hT.block _ (Array.getElem?_eq_some_iff.1 c2).1 (by omega)).trans c2, no, low, hb.trans (hT.below (fun j hj => by omega) hb.size)⟩
set_option maxHeartbeats 1000000 in
set_option maxRecDepth 100000 in
theorem awake_c (w : World) : Calls Try.prog 8 #[] w fun e w' => e = .returned (.bool true) ∧ Below w.heap.size w w' := by
  refine (callsIn_wide (n := 3)).1 ?_
  refine callsIn_of_wp_marks Try.func8 rfl trivial ?_ rfl
  simp only [Try.ntmps8, List.size_toArray, List.length_nil, List.length_cons, Nat.reduceAdd, Nat.reduceSub, Array.replicate_succ, Array.replicate_zero, List.push_toArray, List.append_toArray, List.nil_append, List.cons_append]
  refine wpIn_wide.2 ?_
  go_wp2_with fail
  have hX := new_at w; go_fit hX; clear hX; rintro e w1 ⟨rfl, h1⟩
  obtain ⟨g, HG⟩ : ∃ g, Hid (w.heap.size = g) := ⟨_, Lib.hid rfl⟩
  have HB : Hid (g ≤ w.heap.size) := Lib.hid (by rw [← HG.out]; exact Nat.le_refl _)
  rw [HG.out] at h1 ⊢
  have H1 := Lib.hid h1
  clear h1
  go_wp2_with fail
  have hX := set_at H1.out 1 5 HB.out a1; go_fit hX; clear hX; rintro e w2 ⟨rfl, ks2, h2⟩
  have H2 := Lib.hid h2
  clear h2
  go_wp2_with fail
  have hX := set_at H2.out 2 3 HB.out a2; go_fit hX; clear hX; rintro e w3 ⟨rfl, ks3, h3⟩
  have H3 := Lib.hid h3
  clear h3
  go_wp2_with fail
  have hX := set_at H3.out 2 9 HB.out a3; go_fit hX; clear hX; rintro e w4 ⟨rfl, ks4, h4⟩
  have H4 := Lib.hid h4
  clear h4
  go_wp2_with fail
  have hX := stop_at H4.out 7 a4; go_fit hX; clear hX; rintro e w5 ⟨rfl, ks5, h5⟩
  have H5 := Lib.hid h5
  clear h5
  go_wp2_with fail
  have hX := turn_c (w5.alloc (.cells #[.int .i64 0] 3)) g 4; go_fit hX; clear hX; rintro e w6 ⟨rfl, rfl⟩
  go_wp2_with fail
  have hBa : Below w5.heap.size w5 (((w5.alloc (.cells #[.int .i64 0] 3)).alloc (.cells #[.pointer (some ⟨g, 0, none⟩)] 22)).alloc (.cells #[.int .i64 4] 3)) := (((Below.refl _ _).alloc (Nat.le_refl _) _).alloc (by simp) _).alloc (by simp; omega) _
  have hA : At w (((w5.alloc (.cells #[.int .i64 0] 3)).alloc (.cells #[.pointer (some ⟨g, 0, none⟩)] 22)).alloc (.cells #[.int .i64 4] 3)) g g ks5 [(2, 3), (1, 5)] 0 := H5.out.blw hBa
  have hk0 : (((w5.alloc (.cells #[.int .i64 0] 3)).alloc (.cells #[.pointer (some ⟨g, 0, none⟩)] 22)).alloc (.cells #[.int .i64 4] 3)).heap[w5.heap.size]? = some (.cells #[.int .i64 0] 3 (0, 0)) := by
    rw [Below.heap_alloc _ _ _ (by simp; omega), Below.heap_alloc _ _ _ (by simp)]; exact heap_alloc_new w5 _
  have hk1 : (((w5.alloc (.cells #[.int .i64 0] 3)).alloc (.cells #[.pointer (some ⟨g, 0, none⟩)] 22)).alloc (.cells #[.int .i64 4] 3)).heap[w5.heap.size + 1]? = some (.cells #[.pointer (some ⟨g, 0, none⟩)] 22 (0, 0)) := by
    rw [Below.heap_alloc _ _ _ (by simp)]
    have := heap_alloc_new (w5.alloc (.cells #[.int .i64 0] 3)) (.cells #[.pointer (some ⟨g, 0, none⟩)] 22); rwa [World.size_alloc] at this
  have hk2 : (((w5.alloc (.cells #[.int .i64 0] 3)).alloc (.cells #[.pointer (some ⟨g, 0, none⟩)] 22)).alloc (.cells #[.int .i64 4] 3)).heap[w5.heap.size + 1 + 1]? = some (.cells #[.int .i64 4] 3 (0, 0)) := by
    have := heap_alloc_new ((w5.alloc (.cells #[.int .i64 0] 3)).alloc (.cells #[.pointer (some ⟨g, 0, none⟩)] 22)) (.cells #[.int .i64 4] 3); rwa [World.size_alloc, World.size_alloc] at this
  have hsz : (((w5.alloc (.cells #[.int .i64 0] 3)).alloc (.cells #[.pointer (some ⟨g, 0, none⟩)] 22)).alloc (.cells #[.int .i64 4] 3)).heap.size = w5.heap.size + 3 := by simp
  have hown : ∀ j, own g ks5 j → j < w5.heap.size := fun j hj => H5.out.wh.own_lt hj
  have hlow := H5.out.own
  have hz0 : w.heap.size ≤ w5.heap.size := H5.out.below.size
  obtain ⟨W0, HW0⟩ : ∃ W0, ((w5.alloc (.cells #[.int .i64 0] 3)).alloc (.cells #[.pointer (some ⟨g, 0, none⟩)] 22)).alloc (.cells #[.int .i64 4] 3) = W0 := ⟨_, rfl⟩
  rw [HW0] at hA hk0 hk1 hk2 hsz ⊢
  obtain ⟨z, HZ⟩ : ∃ z, w5.heap.size = z := ⟨_, rfl⟩
  rw [HZ] at hk0 hk1 hk2 hsz hown hz0 ⊢
  clear HZ HW0 hBa H1 H2 H3 H4 H5
  have HAI : AI w g z ks5 [(2, 3), (1, 5)] W0 := ⟨⟨0, hk0, .inl ⟨rfl, rfl⟩⟩, hk1, hk2, fun j hj => .inl (hown j hj), hlow, hA.below⟩
  have HA := hA.wh
  have HS := Lib.hid hsz
  have HG2 := Lib.hid hz0
  clear hk0 hk1 hk2 hsz hown hlow hz0 hA
  refine (wpIn_wide (n := 0 + 1)).1 ?_
  refine range_turn (g := g) (B := g) (now := 0) (tick := 4) (m := [(2, 3), (1, 5)]) (ks := ks5) rfl rfl (fun j => j = z) (AI w g z) (fun _ _ _ _ => False) (fun ks m W h => ⟨(cell_of_row _ _ 0 _ _ _ h.c1).trans rfl, (cell_of_row _ _ 0 _ _ _ h.c2).trans rfl⟩)
    (fun ks m W ks' W' h hT ho hs => h.next HG2.out (by rw [HS.out] at hs; exact hs) (by rw [HS.out] at hT; exact hT) ho)
    (fun _ _ _ _ _ h => h.elim) (fun ks m W h j hj => ⟨by rw [HS.out]; omega, fun ho => by have := h.no j ho; omega⟩) HA HAI
    (fun x => { tmps := #[.bool false, .pointer (some ⟨g, 0, none⟩), .pointer (some ⟨z, 0, none⟩), .int .i64 x.1, .pointer (some ⟨g, 0, none⟩), .pointer (some ⟨g, 0, none⟩), .bool false, .bool false, .pointer (some ⟨g, 0, none⟩), .int .i64 0,
      .bool false, .bool false, .bool false, .pointer (some ⟨g, 0, none⟩), .int .i64 0, .bool false, .bool false, .bool false, .pointer (some ⟨g, 0, none⟩), .int .i64 13, .bool false, .bool false, .bool false, .pointer (some ⟨g, 0, none⟩), .int .i64 14, .bool false,
      .bool false, .pointer (some ⟨g, 0, none⟩), .func (.func 27) #[] #[.pointer (some ⟨z + 1, 0, none⟩), .pointer (some ⟨z + 1 + 1, 0, none⟩)], .int .i64 x.1, .int .i64 x.2, undef, undef, undef, undef, undef, undef, undef, undef, undef, undef, undef, undef, undef], defers := [] }) ?assign ?body ?done ?stop
  case assign =>
    intro l x W K hK
    gi_wp2
    exact hK
  case body =>
    rintro l ks t r W hi hw hle hsz
    have ht : t = (2, 3) := by
      obtain ⟨last, _, hl⟩ := hi.c0
      rcases hl with ⟨hm, _⟩ | ⟨hm, _⟩
      · simp only [List.cons.injEq] at hm; exact hm.1
      · simp only [List.cons.injEq] at hm
        rw [hm.1] at hle
        exact absurd hle (by decide)
    subst ht
    have HP := Lib.hid (hi.wrote HG2.out)
    obtain ⟨last, hc0, _⟩ := hi.c0
    have hc := (cell_of_row W z 0 _ _ _ hc0).trans rfl
    have hf : W.frozen? ⟨z, 0, none⟩ = false := by simp only [World.frozen?, hc0]; rfl
    clear hi hle hsz hc0 hw
    gi_wp2
    exact HP.out
  case done =>
    rintro D ks m W hD hs hK hno hwh hi hend
    have hm : m = [(1, 5)] ∧ W.heap[z]? = some (.cells #[.int .i64 2] 3 (0, 0)) := by
      obtain ⟨last, hc0, hl⟩ := hi.c0
      rcases hl with ⟨hm, _⟩ | ⟨hm, he⟩
      · rcases hend with h | ⟨t, r, h1, h2⟩
        · rw [h] at hm; cases hm
        · rw [hm] at h1
          simp only [List.cons.injEq] at h1
          rw [← h1.1] at h2
          exact absurd h2 (by decide)
      · rw [he] at hc0; exact ⟨hm, hc0⟩
    obtain ⟨rfl, hc0⟩ := hm
    have hc := (cell_of_row W z 0 _ _ _ hc0).trans rfl
    have HL := Lib.hid (len_wh hwh)
    have HN := Lib.hid (now_wh hwh)
    have HK := Lib.hid hK
    have HBW := Lib.hid (putObj_below hi.below (Nat.le_trans HG2.out (Nat.le_trans (by rw [HS.out]; omega) hD)) (.deferred none))
    clear hK hc0 hi hend hwh hs hno
    go_wp2_with fail
    have hX := HL.out; go_fit hX; clear hX; rintro e w9 ⟨rfl, rfl⟩
    go_wp2_with fail
    have hX := HN.out; go_fit hX; clear hX; rintro e w9 ⟨rfl, rfl⟩
    go_wp2
    refine ⟨by simp, .inl ⟨_, _, rfl, run_takeDeferred HK.out, ?_⟩⟩
    exact ⟨_, results_tmp rfl _ _ _, rfl, HBW.out⟩
  case stop =>
    rintro D c ks m W _ _ _ _ _ h
    exact h.elim
end Go.Proofs.Ytppefdodhbdlpaa.H
