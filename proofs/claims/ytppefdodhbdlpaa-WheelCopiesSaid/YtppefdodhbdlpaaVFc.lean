import Derived.Test.YtppefdodhbdlpaaVFa
import Derived.Test.YtppefdodhbdlpaaVEc
namespace Go.Proofs.Ytppefdodhbdlpaa.H
open Go.RowKit Go.Shelf Go.Proofs.YtppefdodhbdlpaaW.PrintWords
set_option linter.unusedVariables false
set_option linter.unusedSimpArgs false
variable {w : World} {B g : Nat} {ks : Nat → Option Nat} {now n : Int} {m r : List (Int × Int)} {t : Int × Int} {b o : Nat} {v : Value} {z y : Nat} {ks0 ks' : Ks} {kind id tick N : Int} {W W' : World}
abbrev CopiesLaw (w : World) (A : Option Addr) (n cap : Nat) (A' : Option Addr) (n' cap' : Nat) : Prop := Calls Try.prog 6 #[.slice A n cap, .slice A' n' cap'] w fun e w' => e = .returned (.bool true) ∧ Below w.heap.size w w'
set_option maxHeartbeats 1000000 in
set_option maxRecDepth 100000 in
theorem copies_out (w : World) (A : Option Addr) (n cap : Nat) (A' : Option Addr) (n' cap' : Nat) (hn : 60 < n ∨ n ≤ 60 ∧ 60 < n') : CopiesLaw w A n cap A' n' cap' := by
  rcases hn with hn | ⟨hn, hn'⟩
  · have hz : (60 : Int) < (n : Int) := by omega
    go_enter Try.func6, Try.ntmps6
    go_wp2_with fail
    have hX := new_at w; go_fit hX; clear hX; rintro e w1 ⟨rfl, h1⟩
    have H1 := Lib.hid h1.below
    clear h1
    go_wp2_with fail
    have hX := awake_c w1; go_fit hX; clear hX; rintro e w2 ⟨rfl, h2⟩
    have H2 := Lib.hid h2
    clear h2
    go_wp2
    go_ret
    exact ⟨rfl, H1.out.trans (H2.out.mono H1.out.size)⟩
  · have hz : ¬ (60 : Int) < (n : Int) := by omega
    have hz' : (60 : Int) < (n' : Int) := by omega
    go_enter Try.func6, Try.ntmps6
    go_wp2_with fail
    have hX := new_at w; go_fit hX; clear hX; rintro e w1 ⟨rfl, h1⟩
    have H1 := Lib.hid h1.below
    clear h1
    go_wp2_with fail
    have hX := awake_c w1; go_fit hX; clear hX; rintro e w2 ⟨rfl, h2⟩
    have H2 := Lib.hid h2
    clear h2
    go_wp2
    go_ret
    exact ⟨rfl, H1.out.trans (H2.out.mono H1.out.size)⟩
theorem PI.copy {A : Option Addr} {cap : Nat} (h : PI w g z ks m now A cap b o W) {e : Ending} {w2 W3 : World} (hC : CopyPost W m now e w2) (hk : W3.heap[w2.heap.size]? = some (.cells #[.slice A m.length cap, .int .i64 now] 32 (0, 0))) (hb : Below w2.heap.size w2 W3) :
    ∃ ks2 b', PI W W.heap.size w2.heap.size ks2 m now A cap b' o W3 := by
  obtain ⟨rfl, ks2, hw, hbe, hown⟩ := hC
  have hgl := hw.gl
  have hbe3 : Below W.heap.size W W3 := hbe.trans (hb.mono hbe.size)
  have hw3 := hw.below hb
  have how : ∀ j, H.own W.heap.size ks2 j → W.heap.size ≤ j ∧ j ≠ w2.heap.size := fun j hj => ⟨hown j hj, by have := hw.own_lt hj; omega⟩
  by_cases h0 : 0 < m.length
  · have hbl : b < W.heap.size := block_lt_of_cell (h.two.mr.cells 0 h0).1
    exact ⟨ks2, b, ⟨hw3, h.two.mr.below hbe3, fun _ hj => by have := hown b hj; omega⟩, hk, hbe3, how, by omega, by omega⟩
  · have h2 := h.two.any (b' := W.heap.size) (by omega)
    exact ⟨ks2, W.heap.size, ⟨hw3, h2.mr.below hbe3, fun h1 => absurd h1 h0⟩, hk, hbe3, how, by omega, by omega⟩
set_option maxHeartbeats 4000000 in
set_option maxRecDepth 100000 in
theorem copies_in (A : Option Addr) (n cap : Nat) (l : List OpT) (B : Option Addr) (n2 capB : Nat) (l2 : List OpT) (hO : Ops w A l) (hl : l.length = n) (hn : n ≤ 60) (hO2 : Ops w B l2) (hl2 : l2.length = n2) (hn2 : n2 ≤ 60) : CopiesLaw w A n cap B n2 capB := by
  have hz : ¬ (60 : Int) < (n : Int) := by omega
  have hz2 : ¬ (60 : Int) < (n2 : Int) := by omega
  have HO := Lib.hid hO
  have HLn := Lib.hid hl
  have HO2 := Lib.hid hO2
  have HLn2 := Lib.hid hl2
  clear hO hl hO2 hl2
  go_enter Try.func6, Try.ntmps6
  go_wp2_with fail
  have hX := new_at w; go_fit hX; clear hX; rintro e w1 ⟨rfl, h1⟩
  have HI := Lib.hid (PI.start h1 rfl (heap_alloc_new w1 _) ((Below.refl _ _).alloc (Nat.le_refl _) _))
  have H1 := Lib.hid h1.below
  clear h1
  obtain ⟨z, hz1⟩ : ∃ z, w1.heap.size = z := ⟨_, rfl⟩
  obtain ⟨g, HG⟩ : ∃ g, Hid (w.heap.size = g) := ⟨_, Lib.hid rfl⟩
  rw [hz1, HG.out] at HI
  rw [HG.out]
  have HZ := Lib.hid hz1
  clear hz1
  go_wp2_with fail
  rw [HZ.out]
  go_loopg [8, 34] n (fun gg _ s34 wr => ∃ i : Nat, ∃ ks m now A' cap' b o, i ≤ n ∧ n - i ≤ gg ∧ s34 = .int .i64 i ∧ Aside (PI w g z ks m now A' cap' b o wr))
  case atStart => exact ⟨0, noks, [], 0, none, 0, g, 0, by omega, by omega, rfl, HI.out⟩
  case round =>
    obtain ⟨i, ks, m, now, A', cap', b, o, hi, hgg, rfl, hP⟩ := hrel
    clear HI
    by_cases hlt : i < n
    · have hltz : (i : Int) < (n : Int) := by omega
      have hil : i < l.length := by rw [HLn.out]; exact hlt
      obtain ⟨ad, rfl, -, p0, p1, p2, p3⟩ := (HO.out.below (hP.out.bel.mono (by rw [HG.out]; exact Nat.le_refl _))).at_ i hil
      obtain ⟨⟨x0, x1, x2, x3⟩, hx⟩ : ∃ x, l[i] = x := ⟨_, rfl⟩
      rw [hx] at p0 p1 p2 p3
      dsimp only at p0 p1 p2 p3
      clear hx hil
      obtain ⟨W1, hW1⟩ : ∃ W1, wr.alloc (.cells #[.int .i64 x0, .int .i64 x1, .int .i64 x2, .int .i64 x3] 34) = W1 := ⟨_, rfl⟩
      have hk1 : W1.heap[wr.heap.size]? = some (.cells #[.int .i64 x0, .int .i64 x1, .int .i64 x2, .int .i64 x3] 34) := by rw [← hW1]; exact heap_alloc_new wr _
      have hs1 : W1.heap.size = wr.heap.size + 1 := by rw [← hW1]; simp
      have hb1 : Below wr.heap.size wr W1 := by rw [← hW1]; exact (Below.refl _ _).alloc (Nat.le_refl _) _
      have hP1 := hP.out.below (Nat.le_of_lt (by have := hP.out.two.wh.gl; exact this)) hb1
      have a0 := (cell_of_row W1 z 0 _ _ _ hP1.box).trans rfl
      have a1 := (cell_of_row W1 z 1 _ _ _ hP1.box).trans rfl
      have i0 := (cell_of_row W1 wr.heap.size 0 _ _ _ hk1).trans rfl
      have i1 := (cell_of_row W1 wr.heap.size 1 _ _ _ hk1).trans rfl
      have i2 := (cell_of_row W1 wr.heap.size 2 _ _ _ hk1).trans rfl
      have i3 := (cell_of_row W1 wr.heap.size 3 _ _ _ hk1).trans rfl
      have HS := Lib.hid (step_law hP1.two (by have := hP1.two.wh.gl; omega) x0 x1 x2 x3)
      have HP1 := Lib.hid hP1
      clear hk1 hs1 hb1 hP1
      go_wp2_with fail
      go_fit HS.out; rintro e w2 hPost
      obtain ⟨ks', m', now', A2, cap2, b', o', u, rfl, k2, -, hfin⟩ := HP1.out.upd hPost
      have g0 := (cell_of_row w2 z 0 _ _ _ k2).trans rfl
      have g1 := (cell_of_row w2 z 1 _ _ _ k2).trans rfl
      have f0 : w2.frozen? ⟨z, 0, none⟩ = false := by simp only [World.frozen?, k2]; rfl
      have f1 : w2.frozen? ⟨z, 1, none⟩ = false := by simp only [World.frozen?, k2]; rfl
      obtain ⟨W3, hW3⟩ : ∃ W3, (w2.setCell ⟨z, 0, none⟩ (.slice A2 m'.length cap2)).setCell ⟨z, 1, none⟩ (.int .i64 now') = W3 := ⟨_, rfl⟩
      have HP3 := Lib.hid (hfin W3 hW3.symm)
      clear a0 a1 i0 i1 i2 i3 p0 p1 p2 p3 HS HP1 hPost k2 hfin hP hW1
      go_wp2
      go_roundg (n - (i + 1))
      case measure => omega
      case rel => exact ⟨i + 1, ks', m', now', A2, cap2, b', o', by omega, by omega, rfl, by (try rw [hW3]); exact HP3.out⟩
    · have hltz : ¬ (i : Int) < (n : Int) := by omega
      have a0 := (cell_of_row wr z 0 _ _ _ hP.out.box).trans rfl
      have a1 := (cell_of_row wr z 1 _ _ _ hP.out.box).trans rfl
      have HCP := Lib.hid (copy_c hP.out.two.wh)
      have hzl : z < wr.heap.size := (Array.getElem?_eq_some_iff.1 hP.out.box).1
      go_wp2_with fail
      go_fit HCP.out; rintro e w2 hC
      have HC2 := Lib.hid hC
      obtain ⟨rfl, _, hw2, hb2, _⟩ := hC
      have hk2 := (hb2.block z hzl).trans hP.out.box
      clear hw2 a0 a1 HCP
      have a0 := (cell_of_row w2 z 0 _ _ _ hk2).trans rfl
      have a1 := (cell_of_row w2 z 1 _ _ _ hk2).trans rfl
      obtain ⟨W4, hW4⟩ : ∃ W4, w2.alloc (.cells #[.slice A' m.length cap', .int .i64 now] 32) = W4 := ⟨_, rfl⟩
      have hk4 : W4.heap[w2.heap.size]? = some (.cells #[.slice A' m.length cap', .int .i64 now] 32) := by rw [← hW4]; exact heap_alloc_new w2 _
      have hb4 : Below w2.heap.size w2 W4 := by rw [← hW4]; exact (Below.refl _ _).alloc (Nat.le_refl _) _
      obtain ⟨ks4, b4, hQ⟩ := hP.out.copy HC2.out hk4 hb4
      obtain ⟨g2, HG2⟩ : ∃ g2, Hid (wr.heap.size = g2) := ⟨_, Lib.hid rfl⟩
      obtain ⟨z2, HZ2⟩ : ∃ z2, Hid (w2.heap.size = z2) := ⟨_, Lib.hid rfl⟩
      rw [HG2.out, HZ2.out] at hQ
      have HQ := Lib.hid hQ
      clear hQ hk4 hb4 hk2 hb2 HC2
      rw [HG2.out]
      go_wp2_with fail
      rw [HZ2.out]
      have HPO := Lib.hid hP.out
      clear hP a0 a1 hW4 hzl hi hgg hlt hltz HO HLn
      obtain ⟨wo, rfl⟩ : ∃ wo : World, wo = wr := ⟨_, rfl⟩
      go_loopg [12, 13, 53] n2 (fun gg _ _ s53 wr2 => ∃ i : Nat, ∃ ks m now A' cap' b o, i ≤ n2 ∧ n2 - i ≤ gg ∧ s53 = .int .i64 i ∧ Aside (PI wo g2 z2 ks m now A' cap' b o wr2))
      case atStart => exact ⟨0, ks4, m, now, A', cap', b4, o, by omega, by omega, rfl, HQ.out⟩
      case round =>
        clear HQ
        obtain ⟨i, ksx, mx, nowx, Ax, capx, bx, ox, hi, hgg, rfl, hP⟩ := hrel
        have hbo : Below wo.heap.size wo wr := hP.out.bel.mono (by rw [HG2.out]; exact Nat.le_refl _)
        by_cases hlt : i < n2
        · have hltz : (i : Int) < (n2 : Int) := by omega
          have hil : i < l2.length := by rw [HLn2.out]; exact hlt
          obtain ⟨ad, rfl, -, p0, p1, p2, p3⟩ := ((HO2.out.below (HPO.out.bel.mono (by rw [HG.out]; exact Nat.le_refl _))).below hbo).at_ i hil
          obtain ⟨⟨x0, x1, x2, x3⟩, hx⟩ : ∃ x, l2[i] = x := ⟨_, rfl⟩
          rw [hx] at p0 p1 p2 p3
          dsimp only at p0 p1 p2 p3
          clear hx hil hbo
          obtain ⟨W1, hW1⟩ : ∃ W1, wr.alloc (.cells #[.int .i64 x0, .int .i64 x1, .int .i64 x2, .int .i64 x3] 34) = W1 := ⟨_, rfl⟩
          have hk1 : W1.heap[wr.heap.size]? = some (.cells #[.int .i64 x0, .int .i64 x1, .int .i64 x2, .int .i64 x3] 34) := by rw [← hW1]; exact heap_alloc_new wr _
          have hs1 : W1.heap.size = wr.heap.size + 1 := by rw [← hW1]; simp
          have hb1 : Below wr.heap.size wr W1 := by rw [← hW1]; exact (Below.refl _ _).alloc (Nat.le_refl _) _
          have hP1 := hP.out.below (Nat.le_of_lt (by have := hP.out.two.wh.gl; exact this)) hb1
          have a0 := (cell_of_row W1 z2 0 _ _ _ hP1.box).trans rfl
          have a1 := (cell_of_row W1 z2 1 _ _ _ hP1.box).trans rfl
          have i0 := (cell_of_row W1 wr.heap.size 0 _ _ _ hk1).trans rfl
          have i1 := (cell_of_row W1 wr.heap.size 1 _ _ _ hk1).trans rfl
          have i2 := (cell_of_row W1 wr.heap.size 2 _ _ _ hk1).trans rfl
          have i3 := (cell_of_row W1 wr.heap.size 3 _ _ _ hk1).trans rfl
          have HS := Lib.hid (step_law hP1.two (by have := hP1.two.wh.gl; omega) x0 x1 x2 x3)
          have HP1 := Lib.hid hP1
          clear hk1 hs1 hb1 hP1
          go_wp2_with fail
          go_fit HS.out; rintro e w2 hPost
          obtain ⟨ks', m', now', A2, cap2, b', o', u, rfl, k2, -, hfin⟩ := HP1.out.upd hPost
          have g0 := (cell_of_row w2 z2 0 _ _ _ k2).trans rfl
          have g1 := (cell_of_row w2 z2 1 _ _ _ k2).trans rfl
          have f0 : w2.frozen? ⟨z2, 0, none⟩ = false := by simp only [World.frozen?, k2]; rfl
          have f1 : w2.frozen? ⟨z2, 1, none⟩ = false := by simp only [World.frozen?, k2]; rfl
          obtain ⟨W3, hW3⟩ : ∃ W3, (w2.setCell ⟨z2, 0, none⟩ (.slice A2 m'.length cap2)).setCell ⟨z2, 1, none⟩ (.int .i64 now') = W3 := ⟨_, rfl⟩
          have HP3 := Lib.hid (hfin W3 hW3.symm)
          clear a0 a1 i0 i1 i2 i3 p0 p1 p2 p3 HS HP1 hPost k2 hfin hP hW1
          go_wp2
          go_roundg (n2 - (i + 1))
          case measure => omega
          case rel => exact ⟨i + 1, ks', m', now', A2, cap2, b', o', by omega, by omega, rfl, by (try rw [hW3]); exact HP3.out⟩
        · have hltz : ¬ (i : Int) < (n2 : Int) := by omega
          have hp1 := HPO.out.below (Nat.le_of_lt (by have := HPO.out.two.wh.gl; exact this)) hbo
          have a0 := (cell_of_row wr z 0 _ _ _ hp1.box).trans rfl
          have a1 := (cell_of_row wr z 1 _ _ _ hp1.box).trans rfl
          have HM1 := Lib.hid (same_law hp1.two)
          have HBW := Lib.hid hp1.bel
          have hgw : g ≤ wr.heap.size := Nat.le_of_lt hp1.two.wh.gl
          have HGW := Lib.hid hgw
          clear hp1 hbo hgw
          go_wp2_with fail
          go_fit HM1.out; rintro e w5 ⟨rfl, hb5⟩
          have hp2 := hP.out.below (Nat.le_of_lt (by have := hP.out.two.wh.gl; exact this)) hb5
          have b0 := (cell_of_row w5 z2 0 _ _ _ hp2.box).trans rfl
          have b1 := (cell_of_row w5 z2 1 _ _ _ hp2.box).trans rfl
          have HM2 := Lib.hid (same_law hp2.two)
          have HB5 := Lib.hid (HBW.out.trans (hb5.mono HGW.out))
          have HG5 := Lib.hid (Nat.le_trans HGW.out hb5.size)
          clear hp2 hb5 a0 a1 HM1 hP HBW
          go_wp2_with fail
          go_fit HM2.out; rintro e w6 ⟨rfl, hb6⟩
          have HB6 := Lib.hid (HB5.out.trans (hb6.mono HG5.out))
          have HG6 := Lib.hid (Nat.le_trans HG5.out hb6.size)
          clear hb6 b0 b1 HM2
          go_wp2_with fail
          have hX := awake_c w6; go_fit hX; clear hX; rintro e w7 ⟨rfl, h7⟩
          have HB7 := Lib.hid (HB6.out.trans (h7.mono HG6.out))
          clear h7
          go_wp2
          go_ret
          exact ⟨rfl, by rw [HG.out]; exact HB7.out⟩
theorem copies_c (A : Option Addr) (cap : Nat) (l : List OpT) (B : Option Addr) (capB : Nat) (l2 : List OpT) (hO : Ops w A l) (hO2 : Ops w B l2) : CopiesLaw w A l.length cap B l2.length capB := by
  by_cases h : l.length ≤ 60 ∧ l2.length ≤ 60
  · exact copies_in A _ cap l B _ capB l2 hO rfl h.1 hO2 rfl h.2
  · exact copies_out w A _ cap B _ capB (by omega)
end Go.Proofs.Ytppefdodhbdlpaa.H
