import Derived.Test.YtppefdodhbdlpaaVEa
namespace Go.Proofs.Ytppefdodhbdlpaa.H
open Go.RowKit Go.Shelf Go.Proofs.YtppefdodhbdlpaaW.PrintWords
set_option linter.unusedVariables false
set_option linter.unusedSimpArgs false
attribute [local go_sem] Oper.semAt_some
variable {w : World} {B g : Nat} {ks : Nat → Option Nat} {now n : Int} {m r : List (Int × Int)} {t : Int × Int} {b o : Nat} {v : Value} {z y : Nat} {ks0 ks' : Ks} {kind id tick N : Int} {W W' : World}
abbrev TurnsLaw (w : World) (A : Option Addr) (n cap : Nat) (tick : Int) : Prop := Calls Try.prog 5 #[.slice A n cap, .int .i64 tick] w fun e w' => e = .returned (.bool true) ∧ Below w.heap.size w w'
theorem res_one {c : TypeId} {u v' : Value} {y : Nat} (hb : Below y w W) (k : W.heap[y]? = some (.cells #[u] c (0, 0))) : ∀ W3, W.setCell ⟨y, 0, none⟩ v' = W3 → W3.cell? ⟨y, 0, none⟩ = some v' ∧ Below y w W3 := by
  rintro W3 rfl
  have t := setCell_turned (j := 0) (u := v') k
  have k2 := setCell_heap (i := 0) (u := v') k
  exact ⟨(cell_of_row _ y 0 _ _ _ k2).trans rfl, hb.trans (t.below (fun j hj => by omega) (by have := (Array.getElem?_eq_some_iff.1 k).1; omega))⟩
set_option maxHeartbeats 1000000 in
set_option maxRecDepth 100000 in
theorem turns_out (w : World) (A : Option Addr) (n cap : Nat) (tick : Int) (hn : 80 < n) : TurnsLaw w A n cap tick := by
  have hz : (80 : Int) < (n : Int) := by omega
  refine (callsIn_wide (n := 3)).1 ?_
  refine callsIn_of_wp_marks Try.func5 rfl trivial ?_ rfl
  simp only [Try.ntmps5, List.size_toArray, List.length_nil, List.length_cons, Nat.reduceAdd, Nat.reduceSub, Array.replicate_succ, Array.replicate_zero, List.push_toArray, List.append_toArray, List.nil_append, List.cons_append]
  refine wpIn_wide.2 ?_
  obtain ⟨w0, hw0⟩ : ∃ w0, w.alloc (.cells #[.bool false] 4) = w0 := ⟨_, rfl⟩
  have hk0 : w0.heap[w.heap.size]? = some (.cells #[.bool false] 4) := by rw [← hw0]; exact heap_alloc_new w _
  have hb0 : Below w.heap.size w w0 := by rw [← hw0]; exact (Below.refl _ _).alloc (Nat.le_refl _) _
  have HK0 := Lib.hid hk0
  have HB0 := Lib.hid hb0
  clear hk0 hb0
  go_wp2_with fail
  have hX := new_at w0; go_fit hX; clear hX; rintro e w1 ⟨rfl, h1⟩
  have H1 := Lib.hid h1.below
  clear h1
  go_wp2_with fail
  have hX := awake_c w1; go_fit hX; clear hX; rintro e w2 ⟨rfl, h2⟩
  have hb2 : Below w0.heap.size w0 w2 := H1.out.trans (h2.mono H1.out.size)
  have hk2 := (hb2.block w.heap.size (Array.getElem?_eq_some_iff.1 HK0.out).1).trans HK0.out
  have HB2 := Lib.hid (HB0.out.trans (hb2.mono HB0.out.size))
  have HK2 := Lib.hid hk2
  have a0 := (cell_of_row w2 w.heap.size 0 _ _ _ hk2).trans rfl
  have f0 : w2.frozen? ⟨w.heap.size, 0, none⟩ = false := by simp only [World.frozen?, hk2]; rfl
  clear h2 hb2 hk2 H1 HB0 HK0 hw0
  go_wp2
  obtain ⟨W3, hW3⟩ : ∃ W3, w2.setCell ⟨w.heap.size, 0, none⟩ (.bool true) = W3 := ⟨_, rfl⟩
  obtain ⟨r0, hb3⟩ := res_one HB2.out HK2.out W3 hW3
  rw [hW3]
  refine ⟨.bool true, ?_, rfl, hb3⟩
  simp [results, Try.results5, go_sem, r0]
theorem PI.upd {A : Option Addr} {cap : Nat} (h : PI w g z ks m now A cap b o W) {e : Ending} {w2 : World} {X : List (Int × Int) → Int → Prop} (hP : TwoPost W g g ks b X e w2) :
    ∃ ks' m' now' A' cap' b' o' u, e = .returned (.tuple #[.agg #[.slice A' m'.length cap', .int .i64 now'], .bool true]) ∧ w2.heap[z]? = some (.cells #[u, .int .i64 now] 32 (0, 0)) ∧ X m' now' ∧
      ∀ W3, W3 = (w2.setCell ⟨z, 0, none⟩ (.slice A' m'.length cap')).setCell ⟨z, 1, none⟩ (.int .i64 now') → PI w g z ks' m' now' A' cap' b' o' W3 := by
  obtain ⟨ks', m', now', v', b', o', rfl, h2, hT, ho, hbb0, hX⟩ := hP
  have hzl := (Array.getElem?_eq_some_iff.1 h.box).1
  obtain ⟨b', h2, hbb⟩ : ∃ b', Two w2 g g ks' m' now' v' b' o' ∧ (b' = b ∨ W.heap.size ≤ b') := by
    by_cases h0 : 0 < m'.length
    · exact ⟨b', h2, (hbb0 h0).imp (fun h => h.1) (fun h => h)⟩
    · exact ⟨b, h2.any (by omega), .inl rfl⟩
  clear hbb0
  obtain ⟨A', cap', rfl, -⟩ := h2.mr.val
  have hgl := h.two.wh.gl
  have hzg := h.gz
  have k2 : w2.heap[z]? = some (.cells #[.slice A m.length cap, .int .i64 now] 32 (0, 0)) := (hT.block z (by omega) (fun hj => (h.ow z hj).2 rfl)).trans h.box
  obtain ⟨tt, k3⟩ := res_store k2 (.slice A' m'.length cap') now'
  refine ⟨ks', m', now', A', cap', b', o', _, rfl, k2, hX, ?_⟩
  rintro W3 rfl
  have hn : ∀ j, H.own g ks' j → g ≤ j ∧ j ≠ z := fun j hj => by
    rcases ho j hj with h3 | h3
    · exact h.ow j h3
    · exact ⟨by omega, by omega⟩
  have hbz : b' ≠ z := by
    rcases hbb with h3 | h3
    · rw [h3]; exact h.bz
    · omega
  exact ⟨⟨h2.wh.turned tt (fun j hj h3 => (hn j h3).2 hj), h2.mr.turned tt (fun h0 h3 => hbz h3), h2.nb⟩, k3, h.bel.trans (Below.trans (hT.below (fun j hj => (h.ow j hj).1) (by omega)) (tt.below (fun j hj => by rw [hj]; exact hzg) (by have := hT.size; omega))), hn, hbz, hzg⟩
theorem alloc2 (w : World) (o0 o1 : Obj) : ∃ W, (w.alloc o0).alloc o1 = W ∧ W.heap[w.heap.size]? = some o0 ∧ W.heap[w.heap.size + 1]? = some o1 ∧ W.heap.size = w.heap.size + 2 ∧ Below w.heap.size w W := by
  refine ⟨_, rfl, ?_, ?_, by simp, (((Below.refl _ w).alloc (Nat.le_refl _) _).alloc (by simp) _)⟩ <;>
    (simp only [World.alloc, Array.getElem?_push, Array.size_push, if_true]; repeat (first | rw [if_pos rfl] | rw [if_neg (by omega)]))
/-- what the empty range carries -/
structure TJ (w0 : World) (g q : Nat) (ks : Ks) (m m' : List (Int × Int)) (tick : Int) (W : World) : Prop where
  hm : m = m'
  kA : W.heap[q]? = some (.cells #[.pointer (some ⟨g, 0, none⟩)] 22 (0, 0))
  kB : W.heap[q + 1]? = some (.cells #[.int .i64 tick] 3 (0, 0))
  bel : Below g w0 W
  ow : ∀ j, H.own g ks j → g ≤ j ∧ j ≠ q ∧ j ≠ q + 1
theorem TJ.next {q : Nat} {m' : List (Int × Int)} (h : TJ w g q ks m m' tick W) (hs : q + 2 ≤ W.heap.size) (hT : Turned W W' (fun j => H.own g ks j ∨ q + 2 ≤ j)) (ho : ∀ j, H.own g ks' j → H.own g ks j ∨ W.heap.size ≤ j) (hg : g ≤ q) : TJ w g q ks' m m' tick W' := by
  have hk : ∀ j, j = q ∨ j = q + 1 → W'.heap[j]? = W.heap[j]? := fun j hj => hT.block j (by omega) (fun h1 => by
    rcases h1 with h1 | h1
    · have := h.ow j h1; omega
    · omega)
  refine ⟨h.hm, (hk _ (.inl rfl)).trans h.kA, (hk _ (.inr rfl)).trans h.kB, h.bel.trans (hT.below (fun j hj => ?_) (by omega)), fun j hj => ?_⟩
  · rcases hj with h1 | h1
    · exact (h.ow j h1).1
    · omega
  · rcases ho j hj with h1 | h1
    · exact h.ow j h1
    · omega
theorem turns_end {D : Nat} {w0 w7 : World} (hB0 : Below y w w0) (hG : w0.heap.size = g) (hy : y < g) (hk0 : w0.heap[y]? = some (.cells #[.bool false] 4 (0, 0))) (hb : Below g w0 W) (hK : W.heap[D]? = some (.deferred (some []))) (h2 : Below W.heap.size W w7) (hgW : g ≤ W.heap.size) (hD : g ≤ D) :
    Hid (∀ W3, w7.setCell ⟨y, 0, none⟩ (.bool true) = W3 → W3.heap[D]? = some (.deferred (some [])) ∧ (W3.putObj D (.deferred none)).cell? ⟨y, 0, none⟩ = some (.bool true) ∧ Below y w (W3.putObj D (.deferred none))) ∧ w7.heap[y]? = some (.cells #[.bool false] 4 (0, 0)) := by
  have hb7 : Below g w0 w7 := hb.trans (h2.mono hgW)
  have k7 := (hb7.block y hy).trans hk0
  have kD := (h2.block D (Array.getElem?_eq_some_iff.1 hK).1).trans hK
  refine ⟨Lib.hid ?_, k7⟩
  rintro W3 rfl
  have t := setCell_turned (j := 0) (u := .bool true) k7
  have k3 := setCell_heap (i := 0) (u := .bool true) k7
  have hT : Turned (w7.setCell ⟨y, 0, none⟩ (.bool true)) ((w7.setCell ⟨y, 0, none⟩ (.bool true)).putObj D (.deferred none)) (fun j => j = D) := putObj_turned _ _ _
  have k4 := (hT.block y (Array.getElem?_eq_some_iff.1 k3).1 (by omega)).trans k3
  refine ⟨(t.block D (Array.getElem?_eq_some_iff.1 kD).1 (by omega)).trans kD, (cell_of_row _ y 0 _ _ _ k4).trans rfl, ?_⟩
  have h7 := (Array.getElem?_eq_some_iff.1 k7).1
  exact hB0.trans ((hb7.mono (by omega)).trans ((t.below (fun j hj => by omega) (by omega)).trans (hT.below (fun j hj => by omega) (by have := t.size; omega))))
set_option maxHeartbeats 4000000 in
set_option maxRecDepth 100000 in
theorem turns_in (A : Option Addr) (n cap : Nat) (l : List OpT) (tick : Int) (hO : Ops w A l) (hl : l.length = n) (hn : n ≤ 80) : TurnsLaw w A n cap tick := by
  have hz : ¬ (80 : Int) < (n : Int) := by omega
  refine (callsIn_wide (n := 3)).1 ?_
  refine callsIn_of_wp_marks Try.func5 rfl trivial ?_ rfl
  simp only [Try.ntmps5, List.size_toArray, List.length_nil, List.length_cons, Nat.reduceAdd, Nat.reduceSub, Array.replicate_succ, Array.replicate_zero, List.push_toArray, List.append_toArray, List.nil_append, List.cons_append]
  refine wpIn_wide.2 ?_
  obtain ⟨w0, hw0⟩ : ∃ w0, w.alloc (.cells #[.bool false] 4) = w0 := ⟨_, rfl⟩
  have hk0 : w0.heap[w.heap.size]? = some (.cells #[.bool false] 4) := by rw [← hw0]; exact heap_alloc_new w _
  have hb0 : Below w.heap.size w w0 := by rw [← hw0]; exact (Below.refl _ _).alloc (Nat.le_refl _) _
  have HK0 := Lib.hid hk0
  have HB0 := Lib.hid hb0
  have HO := Lib.hid (hO.below hb0)
  have HLn := Lib.hid hl
  clear hk0 hb0 hO hl
  go_wp2_with fail
  have hX := new_at w0; go_fit hX; clear hX; rintro e w1 ⟨rfl, h1⟩
  clear hw0
  have HI := Lib.hid (PI.start h1 rfl (heap_alloc_new w1 _) ((Below.refl _ _).alloc (Nat.le_refl _) _))
  have H1 := Lib.hid h1.below
  clear h1
  obtain ⟨z, hz1⟩ : ∃ z, w1.heap.size = z := ⟨_, rfl⟩
  obtain ⟨g, HG⟩ : ∃ g, Hid (w0.heap.size = g) := ⟨_, Lib.hid rfl⟩
  obtain ⟨y, HY⟩ : ∃ y, Hid (w.heap.size = y) := ⟨_, Lib.hid rfl⟩
  rw [hz1, HG.out] at HI
  rw [HG.out, HY.out]
  rw [HY.out] at HK0 HB0
  have HZ := Lib.hid hz1
  clear hz1
  go_wp2_with fail
  rw [HZ.out]
  go_loopg [8, 25] n (fun gg _ s25 wr => ∃ i : Nat, ∃ ks m now A' cap' b o, i ≤ n ∧ n - i ≤ gg ∧ s25 = .int .i64 i ∧ Aside (PI w0 g z ks m now A' cap' b o wr))
  case atStart => exact ⟨0, noks, [], 0, none, 0, g, 0, by omega, by omega, rfl, HI.out⟩
  case round =>
    obtain ⟨i, ks, m, now, A', cap', b, o, hi, hgg, rfl, hP⟩ := hrel
    clear HI
    by_cases hlt : i < n
    · have hltz : (i : Int) < (n : Int) := by omega
      have hil : i < l.length := by rw [HLn.out]; exact hlt
      obtain ⟨ad, rfl, -, p0, p1, p2, p3⟩ := (HO.out.below (hP.out.bel.mono (by rw [HG.out]; exact Nat.le_refl _))).at_ i hil
      obtain ⟨⟨x0, x1, x2, x3⟩, hx⟩ : ∃ x, l[i] = x := ⟨_, rfl⟩
      rw [hx] at p0 p1 p2 p3
      dsimp only at p0 p1 p2 p3
      clear hx hil
      obtain ⟨W1, hW1⟩ : ∃ W1, wr.alloc (.cells #[.int .i64 x0, .int .i64 x1, .int .i64 x2, .int .i64 x3] 34) = W1 := ⟨_, rfl⟩
      have hk1 : W1.heap[wr.heap.size]? = some (.cells #[.int .i64 x0, .int .i64 x1, .int .i64 x2, .int .i64 x3] 34) := by rw [← hW1]; exact heap_alloc_new wr _
      have hs1 : W1.heap.size = wr.heap.size + 1 := by rw [← hW1]; simp
      have hb1 : Below wr.heap.size wr W1 := by rw [← hW1]; exact (Below.refl _ _).alloc (Nat.le_refl _) _
      have hP1 := hP.out.below (Nat.le_of_lt (by have := hP.out.two.wh.gl; exact this)) hb1
      have a0 := (cell_of_row W1 z 0 _ _ _ hP1.box).trans rfl
      have a1 := (cell_of_row W1 z 1 _ _ _ hP1.box).trans rfl
      have i0 := (cell_of_row W1 wr.heap.size 0 _ _ _ hk1).trans rfl
      have i1 := (cell_of_row W1 wr.heap.size 1 _ _ _ hk1).trans rfl
      have i2 := (cell_of_row W1 wr.heap.size 2 _ _ _ hk1).trans rfl
      have i3 := (cell_of_row W1 wr.heap.size 3 _ _ _ hk1).trans rfl
      have HS := Lib.hid (step_law hP1.two (by have := hP1.two.wh.gl; omega) x0 x1 x2 x3)
      have HP1 := Lib.hid hP1
      clear hk1 hs1 hb1 hP1
      go_wp2_with fail
      go_fit HS.out; rintro e w2 hPost
      obtain ⟨ks', m', now', A2, cap2, b', o', u, rfl, k2, -, hfin⟩ := HP1.out.upd hPost
      have g0 := (cell_of_row w2 z 0 _ _ _ k2).trans rfl
      have g1 := (cell_of_row w2 z 1 _ _ _ k2).trans rfl
      have f0 : w2.frozen? ⟨z, 0, none⟩ = false := by simp only [World.frozen?, k2]; rfl
      have f1 : w2.frozen? ⟨z, 1, none⟩ = false := by simp only [World.frozen?, k2]; rfl
      obtain ⟨W3, hW3⟩ : ∃ W3, (w2.setCell ⟨z, 0, none⟩ (.slice A2 m'.length cap2)).setCell ⟨z, 1, none⟩ (.int .i64 now') = W3 := ⟨_, rfl⟩
      have HP3 := Lib.hid (hfin W3 hW3.symm)
      clear a0 a1 i0 i1 i2 i3 p0 p1 p2 p3 HS HP1 hPost k2 hfin hP hW1
      go_wp2
      go_roundg (n - (i + 1))
      case measure => omega
      case rel => exact ⟨i + 1, ks', m', now', A2, cap2, b', o', by omega, by omega, rfl, by (try rw [hW3]); exact HP3.out⟩
    · have hltz : ¬ (i : Int) < (n : Int) := by omega
      have a0 := (cell_of_row wr z 0 _ _ _ hP.out.box).trans rfl
      have a1 := (cell_of_row wr z 1 _ _ _ hP.out.box).trans rfl
      have HT := Lib.hid (turn_law hP.out.two 0 0 tick 0)
      go_wp2_with fail
      go_fit HT.out; rintro e w2 hPost
      obtain ⟨ks', m', now', A2, cap2, b', o', u, rfl, k2, hX, hfin⟩ := hP.out.upd hPost
      have g0 := (cell_of_row w2 z 0 _ _ _ k2).trans rfl
      have g1 := (cell_of_row w2 z 1 _ _ _ k2).trans rfl
      have f0 : w2.frozen? ⟨z, 0, none⟩ = false := by simp only [World.frozen?, k2]; rfl
      have f1 : w2.frozen? ⟨z, 1, none⟩ = false := by simp only [World.frozen?, k2]; rfl
      obtain ⟨W3, hW3⟩ : ∃ W3, (w2.setCell ⟨z, 0, none⟩ (.slice A2 m'.length cap2)).setCell ⟨z, 1, none⟩ (.int .i64 now') = W3 := ⟨_, rfl⟩
      have hP3 := hfin W3 hW3.symm
      have HX := Lib.hid hX
      clear HT hPost k2 hfin hP a0 a1 hX
      have a0 := (cell_of_row W3 z 0 _ _ _ hP3.box).trans rfl
      have a1 := (cell_of_row W3 z 1 _ _ _ hP3.box).trans rfl
      have HM := Lib.hid (same_law hP3.two)
      have HP3 := Lib.hid hP3
      clear hP3
      go_wp2_with fail
      go_fit HM.out; rintro e w4 ⟨rfl, hb4⟩
      have HP4 := Lib.hid (HP3.out.below (Nat.le_of_lt (by have := HP3.out.two.wh.gl; exact this)) hb4)
      clear a0 a1 HM HP3 hb4 hW3 g0 g1 f0 f1
      have HTC := Lib.hid (fun W => turn_c W g tick)
      go_wp2_with fail
      go_fit (HTC.out _); rintro e w6 ⟨rfl, rfl⟩
      clear HTC
      go_wp2_with fail
      obtain ⟨q, HQ⟩ : ∃ q, Hid (w4.heap.size = q) := ⟨_, Lib.hid rfl⟩
      rw [HQ.out]
      obtain ⟨W5, hW5, hkA, hkB, hs5, hb5⟩ := alloc2 w4 (.cells #[.pointer (some ⟨g, 0, none⟩)] 22) (.cells #[.int .i64 tick] 3)
      rw [hW5]
      rw [HQ.out] at hkA hkB hs5
      have hP5 := HP4.out.below (Nat.le_of_lt (by have := HP4.out.two.wh.gl; exact this)) hb5
      have hgl : g < q := by have := HP4.out.two.wh.gl; rw [HQ.out] at this; exact this
      have hown : ∀ j, own g ks' j → g ≤ j ∧ j < q := fun j hj => ⟨(HP4.out.ow j hj).1, by have := HP4.out.two.wh.own_lt hj; rw [HQ.out] at this; exact this⟩
      obtain ⟨hXn, hXm⟩ := HX.out
      have hXm := hXm (Int.le_refl _)
      have hnn : nowAt now' tick = now' := by rw [hXn]; unfold nowAt; omega
      have hJ : TJ w0 g q ks' m' m' tick W5 := ⟨rfl, hkA, hkB, hP5.bel, fun j hj => by have := hown j hj; omega⟩
      have HWH := Lib.hid hP5.two.wh
      have HS5 := Lib.hid hs5
      clear hW5 hkA hkB hb5 hP5 hown HP4 hXn hs5 HX
      refine (wpIn_wide (n := 0 + 1)).1 ?_
      refine range_turn (g := g) (B := g) (now := now') (tick := tick) (m := m') (ks := ks') rfl rfl (fun _ => False) (fun ks1 m1 W => TJ w0 g q ks1 m1 m' tick W) (fun _ _ _ _ => False)
        (fun ks m W h => ⟨(cell_of_row _ _ 0 _ _ _ h.kA).trans rfl, (cell_of_row _ _ 0 _ _ _ h.kB).trans rfl⟩)
        (fun ks m W ks' W' h hT ho hs => by rw [HS5.out] at hs hT; exact h.next hs hT ho (by omega))
        (fun c ks m W W' h _ _ => h) (fun ks m W h j hj => hj.elim) HWH.out hJ ?a1 ?assign ?body ?done ?stop
      case assign =>
        intro l x W K hK
        refine wpIn_skip ?_
        exact hK
      case body =>
        rintro l1 ks1 t r W hi hw hle hsz
        rw [hnn] at hle
        have hm := hi.hm
        rcases hXm with h0 | ⟨t1, r1, h0, hgt⟩
        · rw [h0] at hm; cases hm
        · rw [h0] at hm
          obtain ⟨rfl, -⟩ := List.cons.inj hm
          omega
      case stop => exact fun D c ks m W _ _ _ _ _ h => h.elim
      case done =>
        rintro D ks1 m1 W hD hs hK hno hwh hi -
        rw [HS5.out] at hD hs
        have HBW := Lib.hid hi.bel
        have HKD := Lib.hid hK
        clear hi hK hno hwh hJ
        go_wp2_with fail
        have hX := awake_c W; go_fit hX; clear hX; rintro e w7 ⟨rfl, h2⟩
        have hy : y < g := by rw [← HG.out]; exact (Array.getElem?_eq_some_iff.1 HK0.out).1
        obtain ⟨HE, k7⟩ : Hid (∀ W3, w7.setCell ⟨y, 0, none⟩ (.bool true) = W3 → W3.heap[D]? = some (.deferred (some [])) ∧ (W3.putObj D (.deferred none)).cell? ⟨y, 0, none⟩ = some (.bool true) ∧ Below y w (W3.putObj D (.deferred none))) ∧ w7.heap[y]? = some (.cells #[.bool false] 4) := turns_end HB0.out HG.out hy HK0.out HBW.out HKD.out h2 (by omega) (by omega)
        have a0 := (cell_of_row w7 y 0 _ _ _ k7).trans rfl
        have f0 : w7.frozen? ⟨y, 0, none⟩ = false := by simp only [World.frozen?, k7]; rfl
        clear h2 k7 HBW HKD
        go_wp2
        obtain ⟨W3, hW3⟩ : ∃ W3, w7.setCell ⟨y, 0, none⟩ (.bool true) = W3 := ⟨_, rfl⟩
        obtain ⟨hK3, r0, hb3⟩ := HE.out W3 hW3
        rw [hW3]
        refine ⟨by simp, .inl ⟨_, _, rfl, run_takeDeferred hK3, ?_⟩⟩
        refine ⟨.bool true, ?_, rfl, by rw [HY.out]; exact hb3⟩
        simp [results, Try.results5, go_sem, r0]
theorem turns_c (A : Option Addr) (cap : Nat) (l : List OpT) (tick : Int) (hO : Ops w A l) : TurnsLaw w A l.length cap tick := by
  by_cases h : l.length ≤ 80
  · exact turns_in A l.length cap l tick hO rfl h
  · exact turns_out w A l.length cap tick (by omega)
end Go.Proofs.Ytppefdodhbdlpaa.H
