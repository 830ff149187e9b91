import Derived.Test.YtppefdodhbdlpaaVDg
import Derived.Test.YtppefdodhbdlpaaRd
namespace Go.Proofs.Ytppefdodhbdlpaa.H
open Go.RowKit Go.Shelf Go.Proofs.YtppefdodhbdlpaaW.PrintWords
set_option linter.unusedVariables false
set_option linter.unusedSimpArgs false
variable {w : World} {B g : Nat} {ks : Nat → Option Nat} {now n : Int} {m r : List (Int × Int)} {t : Int × Int} {b o : Nat} {v : Value} {z y : Nat} {ks0 ks' : Ks} {kind id tick N : Int} {W W' : World}
/-- an operation of the law's list -/
abbrev OpT := Int × Int × Int × Int
abbrev k34 : Kd OpT := Kd.pair (Kd.int .i64) (Kd.pair (Kd.int .i64) (Kd.pair (Kd.int .i64) (Kd.int .i64)))
theorem k34_open {w : World} {x : OpT} {cs : List Value} (h : k34.K w x cs) : cs = [.int .i64 x.1, .int .i64 x.2.1, .int .i64 x.2.2.1, .int .i64 x.2.2.2] := by
  obtain ⟨c0, c1, rfl, h0, ⟨c2, c3, rfl, h1, ⟨c4, c5, rfl, h2, h3⟩⟩⟩ := h
  obtain rfl : c0 = _ := h0
  obtain rfl : c2 = _ := h1
  obtain rfl : c4 = _ := h2
  obtain rfl : c5 = _ := h3
  rfl
/-- a list of operations, read -/
structure Ops (w : World) (A : Option Addr) (l : List OpT) : Prop where
  len : l.length ≤ maxLen
  at_ : ∀ j (hj : j < l.length), ∃ ad, A = some ad ∧ ad.block < w.heap.size ∧ w.cell? (ad.add (j * 4)) = some (.int .i64 l[j].1) ∧ w.cell? ⟨(ad.add (j * 4)).block, (ad.add (j * 4)).off + 1, none⟩ = some (.int .i64 l[j].2.1) ∧ w.cell? ⟨(ad.add (j * 4)).block, (ad.add (j * 4)).off + 2, none⟩ = some (.int .i64 l[j].2.2.1) ∧ w.cell? ⟨(ad.add (j * 4)).block, (ad.add (j * 4)).off + 3, none⟩ = some (.int .i64 l[j].2.2.2)
theorem add_block (ad : Addr) (n : Nat) : (ad.add n).block = ad.block := by unfold Addr.add; split <;> rfl
theorem Ops.below {A : Option Addr} {l : List OpT} (h : Ops w A l) (hb : Below w.heap.size w W) : Ops W A l := by
  refine ⟨h.len, fun j hj => ?_⟩
  obtain ⟨ad, e, hlt, h0, h1, h2, h3⟩ := h.at_ j hj
  have hlt2 : (ad.add (j * 4)).block < w.heap.size := by rw [add_block]; exact hlt
  exact ⟨ad, e, Nat.lt_of_lt_of_le hlt hb.size, (hb.cell hlt2).trans h0, (hb.cell (p := ⟨_, _, none⟩) hlt2).trans h1, (hb.cell (p := ⟨_, _, none⟩) hlt2).trans h2, (hb.cell (p := ⟨_, _, none⟩) hlt2).trans h3⟩
theorem Ops.of_C {A : Option Addr} {l : List OpT} (h : Kd.C k34 w A l.length l) (hl : l.length ≤ maxLen) : Ops w A l := by
  refine ⟨hl, fun j hj => ?_⟩
  obtain ⟨ad, c, e, hlen, hK, hc0⟩ := Kd.C_get h (0, 0, 0, 0) (j : Int) (by omega) (by omega)
  have hc : ∀ i u, c[i]? = some u → w.cell? (ad.add (j * 4 + i)) = some u := by
    intro i u hu
    have := hc0 i u hu
    rwa [Int.toNat_natCast, show k34.sz = 4 from rfl] at this
  rw [Int.toNat_natCast, List.getD_eq_getElem?_getD, List.getElem?_eq_getElem hj, Option.getD_some] at hK
  obtain rfl := k34_open hK
  have e0 := hc 0 _ rfl
  exact ⟨ad, e, by have := block_lt_of_cell e0; rwa [add_block] at this, e0, by rw [← add_field _ _ 1 (by omega)]; exact hc 1 _ rfl, by rw [← add_field _ _ 2 (by omega)]; exact hc 2 _ rfl, by rw [← add_field _ _ 3 (by omega)]; exact hc 3 _ rfl⟩
/-- what the law's loop carries -/
structure PI (w : World) (g z : Nat) (ks : Ks) (m : List (Int × Int)) (now : Int) (A : Option Addr) (cap : Nat) (b o : Nat) (W : World) : Prop where
  two : Two W g g ks m now (.slice A m.length cap) b o
  box : W.heap[z]? = some (.cells #[.slice A m.length cap, .int .i64 now] 32 (0, 0))
  bel : Below g w W
  ow : ∀ j, own g ks j → g ≤ j ∧ j ≠ z
  bz : b ≠ z
  gz : g ≤ z
theorem Two.any {b' : Nat} (h : Two w B g ks m now v b o) (h0 : m.length = 0) : Two w B g ks m now v b' o := by
  obtain ⟨A, cap, e1, e2, e3, -⟩ := h.mr.val
  exact ⟨h.wh, ⟨⟨A, cap, e1, e2, e3, fun h => by omega⟩, fun j hj => by omega⟩, fun h => by omega⟩
theorem PI.below {A : Option Addr} {cap : Nat} (h : PI w g z ks m now A cap b o W) (hg : g ≤ W.heap.size) (hb : Below W.heap.size W W') : PI w g z ks m now A cap b o W' :=
  ⟨⟨h.two.wh.below hb, h.two.mr.below hb, h.two.nb⟩, (hb.block z (Array.getElem?_eq_some_iff.1 h.box).1).trans h.box, h.bel.trans (hb.mono hg), h.ow, h.bz, h.gz⟩
theorem PI.start (hA : At w W w.heap.size w.heap.size noks [] 0) {W1 : World} (hz : z = W.heap.size) (hk : W1.heap[z]? = some (.cells #[.slice none 0 0, .int .i64 0] 32 (0, 0))) (hb : Below W.heap.size W W1) : PI w w.heap.size z noks [] 0 none 0 w.heap.size 0 W1 := by
  have hgl := hA.wh.gl
  exact ⟨⟨hA.wh.below hb, ⟨⟨none, 0, rfl, by simp, by unfold maxLen; omega, fun h => absurd h (by simp)⟩, fun j hj => by simp at hj⟩, fun h => absurd h (by simp)⟩, hk, hA.below.trans (hb.mono hA.below.size), fun j hj => ⟨hA.own j hj, by rw [own_noks hj]; omega⟩, by omega, by omega⟩
theorem PI.step {A : Option Addr} {cap : Nat} (h : PI w g z ks m now A cap b o W) (hgw : w.heap.size = g) {ob : Obj} {W1 : World} (hs : W1.heap.size = W.heap.size + 1) (hk : W1.heap[W.heap.size]? = some ob) (hb : Below W.heap.size W W1) {e : Ending} {w2 : World} (hP : TwoPost W1 g g ks b (fun _ _ => True) e w2) :
    ∃ ks' m' now' A' cap' b' o' u, e = .returned (.tuple #[.agg #[.slice A' m'.length cap', .int .i64 now'], .bool true]) ∧ w2.heap[z]? = some (.cells #[u, .int .i64 now] 32 (0, 0)) ∧ W1.heap.size ≤ w2.heap.size ∧
      ∀ W3, W3 = (w2.setCell ⟨z, 0, none⟩ (.slice A' m'.length cap')).setCell ⟨z, 1, none⟩ (.int .i64 now') → PI w g z ks' m' now' A' cap' b' o' W3 ∧ W3.heap[W.heap.size]? = some ob ∧ W.heap.size < W3.heap.size := by
  obtain ⟨ks', m', now', v', b', o', rfl, h2, hT, ho, hbb0, -⟩ := hP
  obtain ⟨b', h2, hbb⟩ : ∃ b', Two w2 g g ks' m' now' v' b' o' ∧ (b' = b ∨ W1.heap.size ≤ b') := by
    by_cases h0 : 0 < m'.length
    · exact ⟨b', h2, (hbb0 h0).imp (fun h => h.1) (fun h => h)⟩
    · exact ⟨b, h2.any (by omega), .inl rfl⟩
  clear hbb0
  obtain ⟨A', cap', rfl, -⟩ := h2.mr.val
  have hzl := (Array.getElem?_eq_some_iff.1 h.box).1
  have hgz : z ≠ W.heap.size := by omega
  have hown : ∀ j, own g ks j → j < W.heap.size := fun j hj => h.two.wh.own_lt hj
  have hgl := h.two.wh.gl
  have hzg := h.gz
  have k2 : w2.heap[z]? = some (.cells #[.slice A m.length cap, .int .i64 now] 32 (0, 0)) := (hT.block z (by omega) (fun hj => (h.ow z hj).2 rfl)).trans ((hb.block z hzl).trans h.box)
  obtain ⟨tt, k3⟩ := res_store k2 (.slice A' m'.length cap') now'
  refine ⟨ks', m', now', A', cap', b', o', _, rfl, k2, hT.size, ?_⟩
  rintro W3 rfl
  have kb : w2.heap[W.heap.size]? = some ob := (hT.block _ (by omega) (fun hj => by have := hown _ hj; omega)).trans hk
  have hn : ∀ j, own g ks' j → g ≤ j ∧ j ≠ z := fun j hj => by
    rcases ho j hj with h3 | h3
    · exact h.ow j h3
    · exact ⟨by have := h.bel.size; omega, by omega⟩
  have hbz : b' ≠ z := by
    rcases hbb with h3 | h3
    · rw [h3]; exact h.bz
    · omega
  refine ⟨⟨⟨h2.wh.turned tt (fun j hj h3 => (hn j h3).2 hj), h2.mr.turned tt (fun h0 h3 => hbz h3), h2.nb⟩, k3, ?_, hn, hbz, hzg⟩, ?_, ?_⟩
  · refine h.bel.trans ((hb.mono (by omega)).trans (Below.trans (hT.below (fun j hj => (h.ow j hj).1) (by omega)) (tt.below (fun j hj => by rw [hj]; exact hzg) (by have := hT.size; omega))))
  · exact (tt.block _ (by have := hT.size; omega) (fun hj => hgz hj.symm)).trans kb
  · have := hT.size; have := tt.size; omega
end Go.Proofs.Ytppefdodhbdlpaa.H
namespace Go.Proofs.Ytppefdodhbdlpaa.H
open Go.RowKit Go.Shelf Go.Proofs.YtppefdodhbdlpaaW.PrintWords
set_option linter.unusedVariables false
set_option linter.unusedSimpArgs false
variable {w : World} {B g : Nat} {ks : Nat → Option Nat} {now n : Int} {m r : List (Int × Int)} {t : Int × Int} {b o : Nat} {v : Value} {z y : Nat} {ks0 ks' : Ks} {kind id tick N : Int} {W W' : World}
abbrev PlaysLaw (w : World) (A : Option Addr) (n cap : Nat) : Prop := Calls Try.prog 4 #[.slice A n cap] w fun e w' => e = .returned (.bool true) ∧ Below w.heap.size w w'
set_option maxHeartbeats 1000000 in
set_option maxRecDepth 100000 in
theorem plays_out (w : World) (A : Option Addr) (n cap : Nat) (hn : 80 < n) : PlaysLaw w A n cap := by
  have hz : (80 : Int) < (n : Int) := by omega
  go_enter Try.func4, Try.ntmps4
  go_wp2_with fail
  have hX := new_at w; go_fit hX; clear hX; rintro e w1 ⟨rfl, h1⟩
  have H1 := Lib.hid h1.below
  clear h1
  go_wp2_with fail
  have hX := awake_c w1; go_fit hX; clear hX; rintro e w2 ⟨rfl, h2⟩
  have H2 := Lib.hid h2
  clear h2
  go_wp2
  go_ret
  exact ⟨rfl, H1.out.trans (H2.out.mono H1.out.size)⟩
set_option maxHeartbeats 4000000 in
set_option maxRecDepth 100000 in
theorem plays_in (A : Option Addr) (n cap : Nat) (l : List OpT) (hO : Ops w A l) (hl : l.length = n) (hn : n ≤ 80) : PlaysLaw w A n cap := by
  have hz : ¬ (80 : Int) < (n : Int) := by omega
  have HO := Lib.hid hO
  have HLn := Lib.hid hl
  clear hO hl
  go_enter Try.func4, Try.ntmps4
  go_wp2_with fail
  have hX := new_at w; go_fit hX; clear hX; rintro e w1 ⟨rfl, h1⟩
  have HI := Lib.hid (PI.start h1 rfl (heap_alloc_new w1 _) ((Below.refl _ _).alloc (Nat.le_refl _) _))
  have H1 := Lib.hid h1.below
  clear h1
  obtain ⟨z, hz1⟩ : ∃ z, w1.heap.size = z := ⟨_, rfl⟩
  obtain ⟨g, HG⟩ : ∃ g, Hid (w.heap.size = g) := ⟨_, Lib.hid rfl⟩
  rw [hz1, HG.out] at HI
  rw [HG.out]
  have HZ := Lib.hid hz1
  clear hz1
  go_wp2_with fail
  rw [HZ.out]
  go_loopg [6, 7, 8, 9, 10, 26] n (fun gg _ _ _ _ _ s26 wr => ∃ i : Nat, ∃ ks m now A' cap' b o, i ≤ n ∧ n - i ≤ gg ∧ s26 = .int .i64 i ∧ Aside (PI w g z ks m now A' cap' b o wr))
  case atStart => exact ⟨0, noks, [], 0, none, 0, g, 0, by omega, by omega, rfl, HI.out⟩
  case round =>
    obtain ⟨i, ks, m, now, A', cap', b, o, hi, hgg, rfl, hP⟩ := hrel
    clear HI
    by_cases hlt : i < n
    · have hltz : (i : Int) < (n : Int) := by omega
      have hil : i < l.length := by rw [HLn.out]; exact hlt
      obtain ⟨ad, rfl, -, p0, p1, p2, p3⟩ := (HO.out.below (hP.out.bel.mono (by rw [HG.out]; exact Nat.le_refl _))).at_ i hil
      obtain ⟨⟨x0, x1, x2, x3⟩, hx⟩ : ∃ x, l[i] = x := ⟨_, rfl⟩
      rw [hx] at p0 p1 p2 p3
      dsimp only at p0 p1 p2 p3
      clear hx hil
      obtain ⟨W1, hW1⟩ : ∃ W1, wr.alloc (.cells #[.int .i64 x0, .int .i64 x1, .int .i64 x2, .int .i64 x3] 34) = W1 := ⟨_, rfl⟩
      have hk1 : W1.heap[wr.heap.size]? = some (.cells #[.int .i64 x0, .int .i64 x1, .int .i64 x2, .int .i64 x3] 34) := by rw [← hW1]; exact heap_alloc_new wr _
      have hs1 : W1.heap.size = wr.heap.size + 1 := by rw [← hW1]; simp
      have hb1 : Below wr.heap.size wr W1 := by rw [← hW1]; exact (Below.refl _ _).alloc (Nat.le_refl _) _
      have hP1 := hP.out.below (Nat.le_of_lt (by have := hP.out.two.wh.gl; exact this)) hb1
      have a0 := (cell_of_row W1 z 0 _ _ _ hP1.box).trans rfl
      have a1 := (cell_of_row W1 z 1 _ _ _ hP1.box).trans rfl
      have i0 := (cell_of_row W1 wr.heap.size 0 _ _ _ hk1).trans rfl
      have i1 := (cell_of_row W1 wr.heap.size 1 _ _ _ hk1).trans rfl
      have i2 := (cell_of_row W1 wr.heap.size 2 _ _ _ hk1).trans rfl
      have i3 := (cell_of_row W1 wr.heap.size 3 _ _ _ hk1).trans rfl
      have HS := Lib.hid (step_law hP1.two (by have := hP1.two.wh.gl; omega) x0 x1 x2 x3)
      have HK1 := Lib.hid hk1
      have HS1 := Lib.hid hs1
      have HB1 := Lib.hid hb1
      clear hk1 hs1 hb1 hP1
      go_wp2_with fail
      go_fit HS.out; rintro e w2 hPost
      obtain ⟨ks', m', now', A2, cap2, b', o', u, rfl, k2, hs2, hfin⟩ := hP.out.step HG.out HS1.out HK1.out HB1.out hPost
      have g0 := (cell_of_row w2 z 0 _ _ _ k2).trans rfl
      have g1 := (cell_of_row w2 z 1 _ _ _ k2).trans rfl
      have f0 : w2.frozen? ⟨z, 0, none⟩ = false := by simp only [World.frozen?, k2]; rfl
      have f1 : w2.frozen? ⟨z, 1, none⟩ = false := by simp only [World.frozen?, k2]; rfl
      have HFN := Lib.hid hfin
      clear a0 a1 i0 i1 i2 i3 p0 p1 p2 p3 HS HK1 HS1 HB1 hPost k2 hs2 hfin hP hW1
      obtain ⟨W3, hW3⟩ : ∃ W3, (w2.setCell ⟨z, 0, none⟩ (.slice A2 m'.length cap2)).setCell ⟨z, 1, none⟩ (.int .i64 now') = W3 := ⟨_, rfl⟩
      obtain ⟨hP3, hk3, hs3⟩ := HFN.out W3 hW3.symm
      have a0 := (cell_of_row W3 z 0 _ _ _ hP3.box).trans rfl
      have a1 := (cell_of_row W3 z 1 _ _ _ hP3.box).trans rfl
      have HM := Lib.hid (same_law hP3.two)
      have HP3 := Lib.hid hP3
      have HK3 := Lib.hid hk3
      have HS3 := Lib.hid hs3
      clear HFN hP3 hk3 hs3
      go_wp2_with fail
      go_fit HM.out; rintro e w4 ⟨rfl, hb4⟩
      have HP4 := Lib.hid (HP3.out.below (Nat.le_of_lt (by have := HP3.out.two.wh.gl; exact this)) hb4)
      have HK4 := Lib.hid ((hb4.block wr.heap.size HS3.out).trans HK3.out)
      have HS4 := Lib.hid (Nat.lt_of_lt_of_le HS3.out hb4.size)
      have i1 := (cell_of_row w4 wr.heap.size 1 _ _ _ HK4.out).trans rfl
      have HG3 := Lib.hid (get_wh HP4.out.two.wh x1)
      have HF3 := Lib.hid (fun w5 (hb5 : Below w4.heap.size w4 w5) => find_mr (HP4.out.below (Nat.le_of_lt (by have := HP4.out.two.wh.gl; exact this)) hb5).two.mr (by have := HP4.out.two.wh.good.len; omega) x1)
      clear a0 a1 HM HP3 HK3 HS3 hb4 hW3 g0 g1 f0 f1
      rcases idx_has x1 m' with ⟨hh1, kk, -, -, hki⟩ | ⟨hh1, hki⟩
      · have hge : (0 : Int) ≤ ((kk : Nat) : Int) := by omega
        rw [hh1] at HG3
        rw [hki] at HF3
        go_wp2_with fail
        go_fit HG3.out; rintro e w5 ⟨rfl, hb5⟩
        have HP5 := Lib.hid (HP4.out.below (Nat.le_of_lt (by have := HP4.out.two.wh.gl; exact this)) hb5)
        have k5 := (hb5.block wr.heap.size HS4.out).trans HK4.out
        have i1 := (cell_of_row w5 wr.heap.size 1 _ _ _ k5).trans rfl
        have b0 := (cell_of_row w5 z 0 _ _ _ HP5.out.box).trans rfl
        have HF5 := Lib.hid (HF3.out w5 hb5)
        clear hb5 k5 HP4 HK4 HS4 HG3 HF3
        go_wp2_with fail
        go_fit HF5.out; rintro e w6 ⟨rfl, hb6⟩
        have HP6 := Lib.hid (HP5.out.below (Nat.le_of_lt (by have := HP5.out.two.wh.gl; exact this)) hb6)
        clear hb6 HP5 HF5 i1 b0
        go_wp2
        go_roundg (n - (i + 1))
        case measure => omega
        case rel => exact ⟨i + 1, ks', m', now', A2, cap2, b', o', by omega, by omega, rfl, HP6.out⟩
      · rw [hh1, tickOf_no hh1] at HG3
        rw [hki] at HF3
        go_wp2_with fail
        go_fit HG3.out; rintro e w5 ⟨rfl, hb5⟩
        have HP5 := Lib.hid (HP4.out.below (Nat.le_of_lt (by have := HP4.out.two.wh.gl; exact this)) hb5)
        have k5 := (hb5.block wr.heap.size HS4.out).trans HK4.out
        have i1 := (cell_of_row w5 wr.heap.size 1 _ _ _ k5).trans rfl
        have b0 := (cell_of_row w5 z 0 _ _ _ HP5.out.box).trans rfl
        have HF5 := Lib.hid (HF3.out w5 hb5)
        clear hb5 k5 HP4 HK4 HS4 HG3 HF3
        go_wp2_with fail
        go_fit HF5.out; rintro e w6 ⟨rfl, hb6⟩
        have HP6 := Lib.hid (HP5.out.below (Nat.le_of_lt (by have := HP5.out.two.wh.gl; exact this)) hb6)
        clear hb6 HP5 HF5 i1 b0
        go_wp2
        go_roundg (n - (i + 1))
        case measure => omega
        case rel => exact ⟨i + 1, ks', m', now', A2, cap2, b', o', by omega, by omega, rfl, HP6.out⟩
    · have hltz : ¬ (i : Int) < (n : Int) := by omega
      have HB := Lib.hid hP.out.bel
      have hgs : g ≤ wr.heap.size := Nat.le_of_lt hP.out.two.wh.gl
      clear hP
      go_wp2_with fail
      have hX := awake_c wr; go_fit hX; clear hX; rintro e w2 ⟨rfl, h2⟩
      have HB2 := Lib.hid (HB.out.trans (h2.mono hgs))
      clear h2 HB hgs
      go_wp2
      go_ret
      exact ⟨rfl, by rw [HG.out]; exact HB2.out⟩
theorem plays_c (A : Option Addr) (cap : Nat) (l : List OpT) (hO : Ops w A l) : PlaysLaw w A l.length cap := by
  by_cases h : l.length ≤ 80
  · exact plays_in A l.length cap l hO rfl h
  · exact plays_out w A l.length cap (by omega)
end Go.Proofs.Ytppefdodhbdlpaa.H
