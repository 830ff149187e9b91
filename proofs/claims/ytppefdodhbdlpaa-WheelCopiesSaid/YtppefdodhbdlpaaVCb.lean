import Derived.Test.YtppefdodhbdlpaaVCa
import Derived.Deep.Upon
namespace Go.Proofs.Ytppefdodhbdlpaa.H
open Go.RowKit Go.Shelf
set_option linter.unusedVariables false
set_option linter.unusedSimpArgs false
variable {w : World} {B g : Nat} {ks : Nat → Option Nat} {vs : Nat → Value} {S : Nat → List (Int × Int)} {now n : Int} {m r : List (Int × Int)} {t : Int × Int}
theorem size47_info : (Try.prog.info? 47).map (fun i => i.size) = some 1 := by kernel_rfl
theorem run_append_empty (w : World) (ty : TypeId) (d : Option Addr) (n c : Nat) (hle : n ≤ c) (A : Option Addr) (k : Nat) : (Builtin.append_ #[47, 47] ty #[.slice d n c, .slice A 0 k]).run Try.prog w = .ok (.slice d n c) w := by
  obtain ⟨i0, hi0, hz0, hzs, hzb⟩ := info_parts info54
  cases d <;> cases A <;> simp [Builtin.append_, run_underlying Try.underlying47, sizeOf, typeInfo, hi0, hle, storeCells, Builtin.lenOf, Builtin.firstCells, loadCells, loadCellsFrom]
set_option maxHeartbeats 1000000 in
set_option maxRecDepth 100000 in
theorem concat_nil (h : IsW w B g ks vs S now n) (h0 : (cat S 64).length = 0) : Calls Try.prog 38 #[.slice (some ⟨g, 0, none⟩) 64 64] w fun e w' => e = .returned (.slice none 0 0) ∧ w = w' := by
  have HC : Hid (∀ i, i < 64 → ∃ A cap, w.cell? ⟨g, i, none⟩ = some (.slice A 0 cap)) := Lib.hid (fun i hi => by
    obtain ⟨A, cap, e⟩ := (h.rows i hi).form
    have hl : (S i).length = 0 := by have := cat_le' S (i := i + 1) (j := 64) (by omega); rw [h0] at this; simp [cat] at this; exact List.length_eq_zero_iff.2 this.2
    rw [hl] at e
    exact ⟨A, cap, (h.c hi).trans (by rw [e])⟩)
  have HE := Lib.hid (fun W ty A k => run_append_empty W ty none 0 0 (Nat.le_refl _) A k)
  clear h h0
  go_enter Try.func38, Try.ntmps38
  go_wp2
  go_loopg [3, 5, 11] 64 (fun gg s3 _ s11 wr => ∃ i : Nat, i ≤ 64 ∧ 64 - i ≤ gg ∧ s3 = .int .i64 0 ∧ s11 = .int .i64 i ∧ wr = w)
  case atStart => exact ⟨0, by omega, by omega, rfl, rfl, rfl⟩
  case round =>
    obtain ⟨i, hi, hgg, rfl, rfl, rfl⟩ := hrel
    by_cases hlt : i < 64
    · have hltz : (i : Int) < 64 := by omega
      obtain ⟨A, cap, hc⟩ := HC.out i hlt
      go_wp2
      go_roundg (64 - (i + 1))
      case measure => omega
      case rel => exact ⟨i + 1, by omega, by omega, rfl, by go_num, rfl⟩
    · have hltz : ¬ (i : Int) < 64 := by omega
      go_wp2_with fail
      have hX := grow_nil wr; go_fit hX; clear hX; rintro e w' ⟨rfl, rfl⟩
      go_wp2
      go_loopg [6, 8, 27] 64 (fun gg s6 _ s27 wr2 => ∃ i : Nat, i ≤ 64 ∧ 64 - i ≤ gg ∧ s6 = .slice none 0 0 ∧ s27 = .int .i64 i ∧ wr2 = wr)
      case atStart => exact ⟨0, by omega, by omega, rfl, rfl, rfl⟩
      case round =>
        obtain ⟨i, hi, hgg, rfl, rfl, rfl⟩ := hrel
        by_cases hlt : i < 64
        · have hltz : (i : Int) < 64 := by omega
          obtain ⟨A, cap, hc⟩ := HC.out i hlt
          go_wp2_with ((with_reducible refine at_dst (N := 33) rfl ?_); refine Mark.mk_ ?_)
          refine Mark.un ?_
          refine Lib.wpList_append_run _ rfl _ _ _ _ rfl _ _ rfl rfl _ _ (HE.out wr _ A cap) ?_
          go_wp2
          go_roundg (64 - (i + 1))
          case measure => omega
          case rel => exact ⟨i + 1, by omega, by omega, rfl, by go_num, rfl⟩
        · have hltz : ¬ (i : Int) < 64 := by omega
          go_wp2
          go_ret
          exact ⟨rfl, rfl⟩
theorem Row.src {v : Value} {xs : List (Int × Int)} {k : Option Nat} (h : Row w B v xs k) : ∃ A cap, v = .slice A xs.length cap ∧ (A = none → xs.length = 0 ∧ cap = 0) ∧ ∀ ad, A = some ad → (∃ b, k = some b ∧ ad = ⟨b, 0, none⟩) := by
  cases k with
  | none => obtain ⟨rfl, rfl⟩ := h; exact ⟨none, 0, rfl, fun _ => ⟨rfl, rfl⟩, fun ad e => by cases e⟩
  | some b => obtain ⟨cap, cs, rfl, _⟩ := h; exact ⟨_, cap, rfl, fun e => (by cases e), fun ad e => ⟨b, rfl, (by cases e; rfl)⟩⟩
theorem Row.news {v : Value} {xs : List (Int × Int)} {b : Nat} (h : Row w B v xs (some b)) : ∀ j u, (flat xs)[j]? = some u → w.cell? ((⟨b, 0, none⟩ : Addr).add j) = some u := by
  obtain ⟨cap, cs, rfl, hB, hb, hs, hl, hm, hf, h1⟩ := h
  intro j u hj
  have hjl : j < xs.length * 2 := by have := (List.getElem?_eq_some_iff.1 hj).1; rwa [flat_len] at this
  rw [Addr.add_mid, Nat.zero_add, cell_of_row w b _ cs 54 (0, 0) hb]
  rw [← hf, List.getElem?_take, if_pos hjl] at hj
  simpa using hj
end Go.Proofs.Ytppefdodhbdlpaa.H
namespace Go.Proofs.Ytppefdodhbdlpaa.H
open Go.RowKit Go.Shelf
set_option linter.unusedVariables false
set_option linter.unusedSimpArgs false
variable {w : World} {B g : Nat} {ks : Nat → Option Nat} {vs : Nat → Value} {S : Nat → List (Int × Int)} {now n : Int} {m r : List (Int × Int)} {t : Int × Int}
def CatPost (w : World) (xs : List (Int × Int)) (e : Ending) (w' : World) : Prop := ∃ v k, e = .returned v ∧ Row w' w.heap.size v xs k ∧ Below w.heap.size w w'
set_option maxHeartbeats 2000000 in
set_option maxRecDepth 100000 in
theorem concat_some (h : IsW w B g ks vs S now n) (h0 : 0 < (cat S 64).length) (h1 : (cat S 64).length ≤ 1048576) : Calls Try.prog 38 #[.slice (some ⟨g, 0, none⟩) 64 64] w (CatPost w (cat S 64)) := by
  obtain ⟨i0, hi0, hz0, hzs, hzb⟩ := info_parts info54
  have hgl := (Array.getElem?_eq_some_iff.1 h.hg).1
  have HI : Aside (IsW w B g ks vs S now n) := h
  have HC : Hid (∀ i, i < 64 → w.cell? ⟨g, i, none⟩ = some (vs i)) := Lib.hid (fun i hi => h.c hi)
  have HF : Hid (∀ i, i < 64 → ∃ A cap, vs i = .slice A (S i).length cap ∧ (A = none → (S i).length = 0 ∧ cap = 0) ∧ ∀ ad, A = some ad → (∃ b, ks i = some b ∧ ad = ⟨b, 0, none⟩)) := Lib.hid (fun i hi => (h.rows i hi).src)
  clear h
  obtain ⟨N, HN⟩ : ∃ N, Hid ((cat S 64).length = N) := ⟨_, Lib.hid rfl⟩
  rw [HN.out] at h0 h1
  have HG := Lib.hid (fun W => grow_some W N h0 h1)
  have HL : Hid (∀ i, i ≤ 64 → (cat S i).length ≤ N) := Lib.hid (fun i hi => by rw [← HN.out]; exact cat_le' S hi)
  go_enter Try.func38, Try.ntmps38
  go_wp2
  go_loopg [3, 5, 11] 64 (fun gg s3 _ s11 wr => ∃ i c : Nat, i ≤ 64 ∧ 64 - i ≤ gg ∧ s3 = .int .i64 c ∧ s11 = .int .i64 i ∧ Aside ((cat S i).length = c) ∧ wr = w)
  case atStart => exact ⟨0, 0, by omega, by omega, rfl, rfl, rfl, rfl⟩
  case round =>
    obtain ⟨i, c, hi, hgg, rfl, rfl, hc, rfl⟩ := hrel
    by_cases hlt : i < 64
    · have hltz : (i : Int) < 64 := by omega
      obtain ⟨A, cap, e1, _, _⟩ := HF.out i hlt
      have hcc := HC.out i hlt
      rw [e1] at hcc
      clear e1
      obtain ⟨l, hl⟩ : ∃ l, Hid ((S i).length = l) := ⟨_, Lib.hid rfl⟩
      rw [hl.out] at hcc
      have hcl : c + l ≤ 1048576 := by
        have := HL.out (i + 1) (by omega)
        have e2 : (cat S (i + 1)).length = (cat S i).length + (S i).length := by simp [cat]
        rw [e2, hc.out, hl.out] at this; omega
      have hcz : (c : Int) + (l : Int) ≤ 1048576 := by omega
      have hcz0 : (0 : Int) ≤ (c : Int) + (l : Int) := by omega
      have hcd : decide ((c : Int) + (l : Int) < 0) = false := decide_eq_false (by omega)
      go_wp2
      go_roundg (64 - (i + 1))
      case measure => omega
      case rel => exact ⟨i + 1, c + l, by omega, by omega, by go_num, by go_num, (show (cat S (i + 1)).length = c + l by simp [cat, hc.out, hl.out]), rfl⟩
    · have hltz : ¬ (i : Int) < 64 := by omega
      obtain rfl : i = 64 := by omega
      have hcn : c = N := hc.out.symm.trans HN.out
      rw [hcn]
      obtain ⟨wo, rfl⟩ : ∃ wo : World, wo = wr := ⟨_, rfl⟩
      clear hcn hc
      go_wp2_with fail
      have hX := HG.out wo; go_fit hX; clear hX; rintro e w1 ⟨⟨G, hG, rfl, ho⟩, hb, hs⟩
      obtain ⟨z, HZ⟩ : ∃ z, Hid (wo.heap.size = z) := ⟨_, Lib.hid rfl⟩
      rw [HZ.out] at ho
      have HO := Lib.hid ho
      have HB : Aside (Below wo.heap.size wo w1) := hb
      rw [HZ.out]
      clear ho hb hs
      go_wp2
      go_loopg [6, 8, 27] 64 (fun gg s6 _ s27 wr => ∃ i k : Nat, i ≤ 64 ∧ 64 - i ≤ gg ∧ k ≤ N ∧ s6 = .slice (some ⟨z, 0, none⟩) k G ∧ s27 = .int .i64 i ∧ Aside ((cat S i).length = k) ∧ Aside (wr.ownsRow z 54 2 (.slice (some ⟨z, 0, none⟩) k G) k (flat (cat S i))) ∧ Aside (Below wo.heap.size wo wr))
      case atStart => exact ⟨0, 0, by omega, by omega, by omega, rfl, rfl, rfl, HO.out, HB.out⟩
      case round =>
        obtain ⟨i, k, hi, hgg, hk, rfl, rfl, hc, ho, hbw⟩ := hrel
        by_cases hlt : i < 64
        · have hltz : (i : Int) < 64 := by omega
          obtain ⟨A, cap, e1, hnone, hsome⟩ := HF.out i hlt
          have hcc := (hbw.out.cell (p := ⟨g, i, none⟩) hgl).trans (HC.out i hlt)
          rw [e1] at hcc
          clear e1
          have hrow := (HI.out.rows i hlt).below hbw.out
          obtain ⟨l, hl⟩ : ∃ l, Hid ((S i).length = l) := ⟨_, Lib.hid rfl⟩
          rw [hl.out] at hcc
          have hcl : k + l ≤ N := by
            have := HL.out (i + 1) (by omega)
            have e2 : (cat S (i + 1)).length = (cat S i).length + (S i).length := by simp [cat]
            rw [e2, hc.out, hl.out] at this; omega
          have hcells : ∀ ad, A = some ad → ∀ j u, (flat (S i))[j]? = some u → wr.cell? (ad.add j) = some u := fun ad e => by
            obtain ⟨b, e3, rfl⟩ := hsome ad e
            rw [e3] at hrow
            exact hrow.news
          have HCE := Lib.hid hcells
          have HNO := Lib.hid hnone
          clear hcells hnone hsome hrow
          go_wp2_with ((with_reducible refine at_dst (N := 33) rfl ?_); refine Mark.mk_ ?_)
          refine Mark.un ?_
          refine wpList_append_fits_any _ rfl _ _ 47 rfl z 54 i0 2 Try.underlying47 hi0 hzs z k G (flat (cat S i)) rfl ho.out A l cap (flat (S i)) rfl (by rw [flat_len, hl.out]) (by rw [← hl.out]; exact HNO.out) HCE.out (oneCell_flat _) (by omega) ?_
          intro w5 ho5 hg5
          have HO5 : Aside (w5.ownsRow z 54 2 (.slice (some ⟨z, 0, none⟩) (k + l) G) (k + l) (flat (cat S (i + 1)))) := (show w5.ownsRow z 54 2 (.slice (some ⟨z, 0, none⟩) (k + l) G) (k + l) (flat (cat S i ++ S i)) by rw [flat_append]; exact ho5)
          have HB5 : Aside (Below wo.heap.size wo w5) := hbw.out.grown hg5 hbw.out.size (fun j e => by cases e; rw [HZ.out]; exact Nat.le_refl _)
          clear ho5 hg5
          go_wp2
          go_roundg (64 - (i + 1))
          case measure => omega
          case rel => exact ⟨i + 1, k + l, by omega, by omega, by omega, rfl, by go_num, (show (cat S (i + 1)).length = k + l by simp [cat, hc.out, hl.out]), HO5.out, HB5.out⟩
        · have hltz : ¬ (i : Int) < 64 := by omega
          obtain rfl : i = 64 := by omega
          have hkc : k = N := hc.out.symm.trans HN.out
          have HP : Aside (CatPost wo (cat S 64) (.returned (.slice (some ⟨z, 0, none⟩) k G)) wr) := ⟨_, _, rfl, Row.of_own (xs := cat S 64) (by rw [HN.out, HZ.out, ← hkc]; exact ho.out) (by rw [HN.out]; omega), hbw.out⟩
          clear hkc
          go_wp2
          go_ret
          exact HP.out
end Go.Proofs.Ytppefdodhbdlpaa.H
namespace Go.Proofs.Ytppefdodhbdlpaa.H
open Go.RowKit Go.Shelf
set_option linter.unusedVariables false
set_option linter.unusedSimpArgs false
attribute [local go_sem] Oper.semAt_some
variable {w : World} {B g : Nat} {ks : Nat → Option Nat} {vs : Nat → Value} {S : Nat → List (Int × Int)} {now n : Int} {m r : List (Int × Int)} {t : Int × Int}
structure Src (xs : List (Int × Int)) (bx : Nat) (A : Option Addr) (b cap : Nat) (W : World) : Prop where
  box : W.cell? ⟨bx, 0, none⟩ = some (.slice A xs.length cap)
  at_ : ∀ j (hj : j < xs.length), A = some ⟨b, 0, none⟩ ∧ W.cell? ⟨b, j * 2, none⟩ = some (.int .i64 xs[j].1) ∧ W.cell? ⟨b, j * 2 + 1, none⟩ = some (.int .i64 xs[j].2)
set_option maxHeartbeats 1000000 in
set_option maxRecDepth 100000 in
theorem values1_c {J : Nat → World → Prop} (l bx b cap k : Nat) (A : Option Addr) (xs : List (Int × Int)) (hl : xs.length ≤ 1048576)
    (hrd : ∀ i W, J i W → Src xs bx A b cap W) (hJ : ∀ i W W', J i W → Below W.heap.size W W' → J i W')
    (hY : ∀ i (hi : i < xs.length) W, J i W → YieldAt Fence.wide k Try.prog l #[.agg #[.int .i64 xs[i].1, .int .i64 xs[i].2]] W fun e W' => e = .returned (.bool true) ∧ J (i + 1) W')
    (h0 : J 0 w) : Calls Try.prog 48 #[.func (.yield l) #[] #[], .pointer (some ⟨bx, 0, none⟩)] w fun e w' => e = .returned (.tuple #[]) ∧ J xs.length w' := by
  obtain ⟨n, HN⟩ : ∃ n, Hid (xs.length = n) := ⟨_, Lib.hid rfl⟩
  have HRD := Lib.hid hrd
  have HJ := Lib.hid hJ
  have HY := Lib.hid hY
  have H0 := Lib.hid h0
  have hc := (hrd 0 w h0).box
  rw [HN.out] at hc hl ⊢
  clear hrd hJ hY h0
  go_enter Try.func48, Try.ntmps48
  go_wp2
  go_loopg [7] n (fun gg s7 wr => ∃ i : Nat, i ≤ n ∧ n - i ≤ gg ∧ s7 = .int .i64 i ∧ Aside (J i wr))
  case atStart => exact ⟨0, by omega, by omega, rfl, H0.out⟩
  case round =>
    clear H0
    obtain ⟨i, hi, hgg, rfl, hj⟩ := hrel
    by_cases hlt : i < n
    · have hltz : (i : Int) < (n : Int) := by omega
      have hx : i < xs.length := by rw [HN.out]; exact hlt
      obtain ⟨rfl, c0, c1⟩ := (HRD.out i wr hj.out).at_ i hx
      have HYI := Lib.hid (fun W => HY.out i hx W)
      obtain ⟨x1, hx1⟩ : ∃ x1, Hid (xs[i].1 = x1) := ⟨_, Lib.hid rfl⟩
      obtain ⟨x2, hx2⟩ : ∃ x2, Hid (xs[i].2 = x2) := ⟨_, Lib.hid rfl⟩
      rw [hx1.out] at c0
      rw [hx2.out] at c1
      rw [hx1.out, hx2.out] at HYI
      have hja := HJ.out i wr (wr.alloc (.cells #[.int .i64 x1, .int .i64 x2] 54)) hj.out ((Below.refl _ _).alloc (Nat.le_refl _) _)
      obtain ⟨fn, tmps, assign, body, hy, hR⟩ := HYI.out _ hja
      have HR := Lib.hid hR
      have HY2 := Lib.hid hy
      clear hR hja hy
      go_upto_region 3 with (fail)
      have hy := HY2.out
      refine (wpIn_wide (n := k + 1)).1 ?_
      gi_wp2
      refine HR.out.mono ?_
      rintro e w5 ⟨rfl, hJ5⟩
      have HJ5 := Lib.hid hJ5
      clear hJ5 hy c0 c1
      gi_wp2
      go_wp2
      go_roundg (n - (i + 1))
      case measure => omega
      case rel => exact ⟨i + 1, by omega, by omega, by go_num, HJ5.out⟩
    · have hltz : ¬ (i : Int) < (n : Int) := by omega
      have hin : i = n := by omega
      have HJ5 := Lib.hid hj.out
      rw [hin] at HJ5
      clear hin
      go_wp2
      go_end0
      exact ⟨rfl, HJ5.out⟩
/-- what the law's own steps turn: blocks that are no cells, from the loop's begin on -/
def Abides (H : Nat) (W W' : World) : Prop := Turned W W' (fun j => H ≤ j ∧ ∃ o : Obj, W.heap[j]? = some o ∧ o.isCells = false)
theorem Abides.of_below {H : Nat} {W W' : World} (h : Below W.heap.size W W') : Abides H W W' := Turned.of_below h
theorem abides_at {H l : Nat} {W W' : World} {o : Obj} (hT : Turned W W' (fun j => j = l)) (hl : W.heap[l]? = some o) (ho : o.isCells = false) (hH : H ≤ l) : Abides H W W' := hT.mono (fun j h => by subst h; exact ⟨hH, o, hl, ho⟩)
def collWord (I : Nat → World → Prop) (i : Nat) (W : World) : Exit → Act → World → Prop
  | .normal, _, W' => KeepsOthers W W' ∧ I (i + 1) W'
  | _, _, _ => False
theorem range_values {k : Nat} {gop : Operand} {ps : Array Tmp} {assign body : Code} {Q : Exit → Act → World → Prop} {a : Act} {bx b cap : Nat} {A : Option Addr} {xs : List (Int × Int)} (hlx : xs.length ≤ 1048576)
    (hg : a.eval gop = .func (.func 48) #[] #[.pointer (some ⟨bx, 0, none⟩)]) (hps : ps.size = 1)
    (I : Nat → World → Prop) (hrd : ∀ i W, I i W → Src xs bx A b cap W)
    (hI : ∀ i W W', I i W → Abides w.heap.size W W' → I i W') (h0 : I 0 w)
    (Ax : Nat → Act → World → Prop) (hAx : ∀ i a' W W', Ax i a' W → Abides w.heap.size W W' → Ax i a' W')
    (hassign : ∀ (l i : Nat) (hi : i < xs.length) (W : World) (K : Act → World → Prop), (∀ a' W', Below W.heap.size W W' → Ax i a' W' → K a' W') →
      assign.wpIn (Fence.wide.inRound l) k Try.prog (Exit.then K (fun _ _ _ => False)) { tmps := (ps.zip #[.agg #[.int .i64 xs[i].1, .int .i64 xs[i].2]]).foldl (fun t (p, v) => t.setIfInBounds p v) a.tmps, defers := [] } W)
    (hbody : ∀ (l i : Nat) (hi : i < xs.length) (a' : Act) (W : World), I i W → Ax i a' W → body.wpIn (Fence.wide.inRound l) k Try.prog (collWord I i W) a' W)
    (hdone : ∀ (D : Nat) (W : World), w.heap.size ≤ D → W.heap[D]? = some (.deferred (some [])) → I xs.length W → Q .normal { a with defers := { target := .collected D, args := #[] } :: a.defers } W) :
    (Code.rangeFunc gop ps assign body).wpIn Fence.wide (k + 1) Try.prog Q a w := by
  refine wpIn_rangeFunc ?_
  intro fn hfn
  obtain ⟨rec, hrec⟩ : ∃ rec : LoopState → Option Code → Loop, rec = fun st pe => { state := st, pending := pe, fn, tmps := a.tmps, params := ps, assign, body, defers := w.heap.size } := ⟨_, rfl⟩
  obtain ⟨W1, hW1⟩ : ∃ W1, (w.alloc (.deferred (some []))).alloc (.loop (rec .ready none)) = W1 := ⟨_, rfl⟩
  have hL1 : W1.heap[w.heap.size + 1]? = some (.loop (rec .ready none)) := by
    rw [← hW1]; have := World.alloc_heap_new (w.alloc (.deferred (some []))) (.loop (rec .ready none)); rwa [World.size_alloc] at this
  have hK1 : W1.heap[w.heap.size]? = some (.deferred (some [])) := by
    rw [← hW1]; exact (Below.heap_alloc _ _ _ (by simp)).trans (World.alloc_heap_new w _)
  have hB1 : Below w.heap.size w W1 := by
    rw [← hW1]; exact ((Below.refl _ w).alloc (Nat.le_refl _) _).alloc (by simp) _
  have hI1 : I 0 W1 := hI 0 w W1 h0 (Abides.of_below hB1)
  refine ⟨w.heap.size + 1, [{ target := .collected w.heap.size, args := #[] }], W1, { target := .fn (.func 48) #[.pointer (some ⟨bx, 0, none⟩)], args := #[.func (.yield (w.heap.size + 1)) #[] #[]] }, W1, 48,
    #[.func (.yield (w.heap.size + 1)) #[] #[]] ++ #[.pointer (some ⟨bx, 0, none⟩)], W1, ?_, ?_, ?_, ?_, fun h => by omega, ?_⟩
  · rw [← hW1, hrec]; exact run_enterLoop_outer _ _ _ _ _
  · simp only [resolve, hg]
    simp [go_sem]
  · intro f' hf'; exact trivial
  · have eg := enters_of Try.func48 (by kernel_rfl) rfl
    simp [invoke, go_sem, eg]
  · rw [Nat.add_sub_cancel]
    refine callsIn_wide.2 ((values1_c (k := k) (J := fun i W => I i W ∧ W.heap[w.heap.size + 1]? = some (.loop (rec .ready none)) ∧ W.heap[w.heap.size]? = some (.deferred (some [])))
      (w.heap.size + 1) bx b cap A xs hlx (fun i W h => hrd i W h.1) ?_ ?_ ⟨hI1, hL1, hK1⟩).mono ?_)
    · rintro i W W' ⟨hi, hl, hk⟩ hb
      exact ⟨hI i W W' hi (Abides.of_below hb), (hb.block _ (Array.getElem?_eq_some_iff.1 hl).1).trans hl, (hb.block _ (Array.getElem?_eq_some_iff.1 hk).1).trans hk⟩
    · rintro i hx W ⟨hi, hl, hk⟩
      have hy := run_yield (P := Try.prog) (args := #[.agg #[.int .i64 xs[i].1, .int .i64 xs[i].2]]) hl (by rw [hrec]; exact hps.symm)
      rw [hrec] at hy
      refine ⟨fn, _, assign, body, hy, roundIn_of_wpIn hfn (hassign _ i hx W _ ?_)⟩
      intro a' Wa hba hax
      have hla : Wa.heap[w.heap.size + 1]? = some (.loop (rec .ready none)) := (hba.block _ (Array.getElem?_eq_some_iff.1 hl).1).trans hl
      have hka : Wa.heap[w.heap.size]? = some (.deferred (some [])) := (hba.block _ (Array.getElem?_eq_some_iff.1 hk).1).trans hk
      have hia : I i Wa := hI i W Wa hi (Abides.of_below hba)
      refine ⟨_, run_beginRound hla (by rw [hrec]), ?_⟩
      obtain ⟨W2, hW2⟩ : ∃ W2, Wa.putObj (w.heap.size + 1) (.loop { rec .ready none with state := .busy }) = W2 := ⟨_, rfl⟩
      have hT2 : Turned Wa W2 (fun j => j = w.heap.size + 1) := by rw [← hW2]; exact putObj_turned _ _ _
      have hA2 : Abides w.heap.size Wa W2 := abides_at hT2 hla rfl (by omega)
      have hl2 : W2.heap[w.heap.size + 1]? = some (.loop { rec .ready none with state := .busy }) := by rw [← hW2]; exact World.putObj_heap_same (Array.getElem?_eq_some_iff.1 hla).1
      have hk2 : W2.heap[w.heap.size]? = some (.deferred (some [])) := (hT2.block _ (Array.getElem?_eq_some_iff.1 hka).1 (by omega)).trans hka
      rw [show (Wa.putObj (w.heap.size + 1) (.loop { rec .ready none with state := .busy })) = W2 from hW2]
      refine wpIn_mono (hbody _ i hx a' W2 (hI i Wa W2 hia hA2) (hAx i a' Wa W2 hax hA2)) ?_
      rintro e a3 W3 hp
      cases e with
      | normal =>
        obtain ⟨hK3, hi3⟩ := hp
        have hl3 := hK3.same _ _ hl2 rfl
        have hk3 := hK3.same _ _ hk2 rfl
        have hr := run_endRound (P := Try.prog) none hl3
        have hT4 : Turned W3 (W3.putObj (w.heap.size + 1) (.loop (rec .ready none))) (fun j => j = w.heap.size + 1) := putObj_turned _ _ _
        refine ⟨.bool true, W3.putObj (w.heap.size + 1) (.loop (rec .ready none)), by rw [hrec] at hr ⊢; exact hr, rfl, hI _ W3 _ hi3 (abides_at hT4 hl3 rfl (by omega)), World.putObj_heap_same (Array.getElem?_eq_some_iff.1 hl3).1, (hT4.block _ (Array.getElem?_eq_some_iff.1 hk3).1 (by omega)).trans hk3⟩
      | ret => exact hp.elim
      | exit id => exact hp.elim
      | goto t => exact hp.elim
      | panic ch => exact hp.elim
      | outgrown => exact hp.elim
    · rintro e W2 ⟨rfl, hi, hl, hk⟩
      have hT4 : Turned W2 (W2.putObj (w.heap.size + 1) (.loop { rec .ready none with state := .exhausted })) (fun j => j = w.heap.size + 1) := putObj_turned _ _ _
      exact ⟨none, _, by have := run_endLoop (P := Try.prog) hl (by rw [hrec]; simp); rw [hrec] at this ⊢; exact this, hdone _ _ (Nat.le_refl _) ((hT4.block _ (Array.getElem?_eq_some_iff.1 hk).1 (by omega)).trans hk) (hI _ W2 _ hi (abides_at hT4 hl rfl (by omega)))⟩
end Go.Proofs.Ytppefdodhbdlpaa.H
namespace Go.Proofs.Ytppefdodhbdlpaa.H
open Go.RowKit Go.Shelf
set_option linter.unusedVariables false
set_option linter.unusedSimpArgs false
attribute [local go_sem] Oper.semAt_some
variable {w : World} {B g : Nat} {ks : Nat → Option Nat} {vs : Nat → Value} {S : Nat → List (Int × Int)} {now n : Int} {m r : List (Int × Int)} {t : Int × Int}
set_option maxRecDepth 100000 in
theorem values_c (w : World) (v : Value) (hv : v.oneCell' = true) (A : Option Addr) (l c : Nat) (he : v = .slice A l c) :
    Calls Try.prog 37 #[v] w fun e w' => e = .returned (.func (.func 48) #[] #[.pointer (some ⟨w.heap.size, 0, none⟩)]) ∧ w' = w.alloc (.cells #[v] 47) := by
  subst he
  go_enter Try.func37, Try.ntmps37
  go_wp2
  go_ret
  exact ⟨rfl, rfl⟩
theorem Src.below {xs : List (Int × Int)} {bx b cap : Nat} {A : Option Addr} {W : World} (h : Src xs bx A b cap w) (hb : Below w.heap.size w W) : Src xs bx A b cap W := by
  refine ⟨(hb.cell (p := ⟨bx, 0, none⟩) (block_lt_of_cell h.box)).trans h.box, fun j hj => ?_⟩
  obtain ⟨h1, h2, h3⟩ := h.at_ j hj
  exact ⟨h1, (hb.cell (p := ⟨b, _, none⟩) (block_lt_of_cell h2)).trans h2, (hb.cell (p := ⟨b, j * 2 + 1, none⟩) (block_lt_of_cell h3)).trans h3⟩
theorem at_dstIn {F : Fence} {k : Nat} {P : Program} {ops : Array Oper} {rest : List Oper} {o : Oper} {a : Act} {Q : Exit → Act → World → Prop} {W : World} {N : Tmp} (_hN : o.dst = some N) (h : wpListIn F k P ops Q (o :: rest) a W) : wpListIn F k P ops Q (o :: rest) a W := h
structure CI (w : World) (xs : List (Int × Int)) (bs : Nat) (i : Nat) (W : World) : Prop where
  row : ∃ v, W.heap[bs]? = some (.cells #[v] 47 (0, 0)) ∧ W.ownsRow bs 54 2 v i (flat (xs.take i))
  below : Below w.heap.size w W
theorem CI.next {xs : List (Int × Int)} {bs i H : Nat} {W W' : World} (h : CI w xs bs i W) (hH : w.heap.size ≤ H) (hT : Abides H W W') : CI w xs bs i W' := by
  obtain ⟨⟨v, h1, h2⟩, hb⟩ := h
  have hno : ∀ k c, W.heap[k]? = some (.cells c 47 (0, 0)) ∨ W.heap[k]? = some (.cells c 54 (0, 0)) → ¬ (H ≤ k ∧ ∃ o : Obj, W.heap[k]? = some o ∧ o.isCells = false) := fun k c hk ⟨_, o, ho, hc⟩ => by
    rcases hk with hk | hk <;> (rw [hk] at ho; cases ho; cases hc)
  refine ⟨⟨v, (hT.block bs (Array.getElem?_eq_some_iff.1 h1).1 (hno _ _ (.inl h1))).trans h1, h2.1, ?_⟩, hb.trans (hT.below (fun j hj => Nat.le_trans hH hj.1) hb.size)⟩
  rcases h2.2 with h3 | ⟨g, cap, cur, rfl, hg, hh, r⟩
  · exact .inl h3
  · exact .inr ⟨g, cap, cur, rfl, hg, (hT.block g (Array.getElem?_eq_some_iff.1 hh).1 (hno _ _ (.inr hh))).trans hh, r⟩
theorem own_cells {z sz n : Nat} {E : TypeId} {v : Value} {ys : List Value} (h : w.ownsRow z E sz v n ys) {g : Nat} (hg : v.ownBlock = some g) : z ≤ g ∧ ∃ c, w.heap[g]? = some (.cells c E (0, 0)) := by
  rcases h.2 with ⟨rfl, _⟩ | ⟨g', cap, cur, rfl, hb, hh, r⟩
  · cases hg
  · cases hg; exact ⟨hb, cur, hh⟩
theorem CI.push {xs : List (Int × Int)} {z i : Nat} {W w1 : World} {x : Int × Int} {v v' : Value} {o : Obj} (hw : w.heap.size ≤ z) (hb : Below w.heap.size w W) (h1 : W.heap[z]? = some (.cells #[v] 47 (0, 0))) (h2 : W.ownsRow z 54 2 v i (flat (xs.take i))) (hx : xs[i]? = some x)
    (hown : w1.ownsRow z 54 2 v' (i + 1) (flat (xs.take i) ++ flat [x])) (hg : (W.alloc o).grownBy w1 v.ownBlock) : KeepsOthers W (w1.setCell ⟨z, 0, none⟩ v') ∧ CI w xs z (i + 1) (w1.setCell ⟨z, 0, none⟩ v') := by
  have hzl : z < W.heap.size := (Array.getElem?_eq_some_iff.1 h1).1
  have hal : ∀ k, k < W.heap.size → (W.alloc o).heap[k]? = W.heap[k]? := fun k hk => Below.heap_alloc W o k hk
  have hzv : some z ≠ v.ownBlock := fun e => by
    obtain ⟨_, c, hc⟩ := own_cells h2 e.symm
    rw [h1] at hc; cases hc
  have hz1 : w1.heap[z]? = some (.cells #[v] 47 (0, 0)) := (hg.block z (by simp; omega) hzv).trans ((hal z hzl).trans h1)
  have hT := setCell_turned (j := 0) (u := v') hz1
  have hgk : ∀ g, v.ownBlock = some g → w.heap.size ≤ g := fun g e => Nat.le_trans hw (own_cells h2 e).1
  have hba : Below w.heap.size w (W.alloc o) := hb.trans ((Below.refl _ _).alloc hb.size o)
  have hb1 : Below w.heap.size w w1 := hba.grown hg hba.size (fun k e => hgk k e)
  refine ⟨?_, ⟨v', setCell_heap hz1, ?_, ?_⟩, hb1.trans (hT.below (fun j hj => by omega) hb1.size)⟩
  · refine ((KeepsOthers.alloc W o).trans (KeepsOthers.of_grownBy hg (fun j o' e ho' => ?_))).trans (KeepsOthers.setCell _ _ _)
    obtain ⟨_, c, hc⟩ := own_cells h2 e
    rw [hal j (Array.getElem?_eq_some_iff.1 hc).1, hc] at ho'
    cases ho'; rfl
  · rw [List.take_add_one, hx, flat_append]; exact hown.1
  · rw [List.take_add_one, hx, flat_append]
    rcases hown.2 with h3 | ⟨g, cap, cur, rfl, hgb, hh, r⟩
    · exact .inl h3
    · refine .inr ⟨g, cap, cur, rfl, hgb, (hT.block g (Array.getElem?_eq_some_iff.1 hh).1 (fun e => ?_)).trans hh, r⟩
      subst e
      rw [hz1] at hh; cases hh
set_option maxHeartbeats 1000000 in
set_option maxRecDepth 100000 in
theorem appendSeq_c {xs : List (Int × Int)} {bx b cap : Nat} {A : Option Addr} (hlx : xs.length ≤ 1048576) (hs : Src xs bx A b cap w) :
    Calls Try.prog 52 #[.slice none 0 0, .func (.func 48) #[] #[.pointer (some ⟨bx, 0, none⟩)]] w (CatPost w xs) := by
  refine (callsIn_wide (n := 3)).1 ?_
  refine callsIn_of_wp_marks Try.func52 rfl trivial ?_ rfl
  simp only [Try.ntmps52, List.size_toArray, List.length_nil, List.length_cons, Nat.reduceAdd, Nat.reduceSub, Array.replicate_succ, Array.replicate_zero, List.push_toArray, List.append_toArray, List.nil_append, List.cons_append]
  refine wpIn_wide.2 ?_
  go_wp2
  have hCI : CI w xs w.heap.size 0 (w.alloc (.cells #[.slice none 0 0] 47)) := ⟨⟨_, heap_alloc_new w _, ⟨rfl, .inl ⟨rfl, rfl⟩⟩⟩, (Below.refl _ _).alloc (Nat.le_refl _) _⟩
  have hsz : (w.alloc (.cells #[.slice none 0 0] 47)).heap.size = w.heap.size + 1 := by simp
  obtain ⟨W0, HW0⟩ : ∃ W0, w.alloc (.cells #[.slice none 0 0] 47) = W0 := ⟨_, rfl⟩
  rw [HW0] at hCI hsz ⊢
  obtain ⟨z, HZ⟩ : ∃ z, Hid (w.heap.size = z) := ⟨_, Lib.hid rfl⟩
  rw [HZ.out] at hCI hsz ⊢
  have HS := Lib.hid hsz
  have HC := Lib.hid hCI
  clear HW0 hCI hsz
  refine (wpIn_wide (n := 0 + 1)).1 ?_
  refine range_values hlx rfl rfl (CI w xs z) (fun i W h => hs.below h.below) (fun i W W' h hT => h.next (by rw [HS.out, HZ.out]; omega) hT) HC.out
    (fun i a' W => ∃ q x, xs[i]? = some x ∧ W.heap[q]? = some (.cells #[.int .i64 x.1, .int .i64 x.2] 54 (0, 0)) ∧ a' = { tmps := #[.slice none 0 0, .func (.func 48) #[] #[.pointer (some ⟨bx, 0, none⟩)], .pointer (some ⟨z, 0, none⟩), undef, .slice none 0 0, .pointer (some ⟨q, 0, none⟩), .func (.func 48) #[] #[.pointer (some ⟨bx, 0, none⟩)], .agg #[.int .i64 x.1, .int .i64 x.2], undef, undef, undef, undef, undef], defers := [] })
    ?ax ?assign ?body ?done
  case ax =>
    rintro i a' W W' ⟨q, x, hx, hq, rfl⟩ hT
    refine ⟨q, x, hx, (hT.block q (Array.getElem?_eq_some_iff.1 hq).1 ?_).trans hq, rfl⟩
    rintro ⟨_, o, ho, hc⟩
    rw [hq] at ho; cases ho; cases hc
  case assign =>
    intro l i hi W K hK
    have HK := Lib.hid hK
    clear hK
    obtain ⟨x, hx⟩ : ∃ x, xs[i] = x := ⟨_, rfl⟩
    have HX := Lib.hid (show xs[i]? = some x by rw [← hx]; exact List.getElem?_eq_getElem hi)
    rw [hx]
    clear hx
    obtain ⟨x1, x2⟩ := x
    gi_wp2
    exact HK.out _ _ ((Below.refl _ _).alloc (Nat.le_refl _) _) ⟨_, (x1, x2), HX.out, heap_alloc_new W _, rfl⟩
  case body =>
    rintro l i hi a' W hI ⟨q, x, hx, hq, rfl⟩
    have HI : Aside (CI w xs z i W) := hI
    obtain ⟨⟨v, h1, h2⟩, hb⟩ := hI
    obtain ⟨x1, x2⟩ := x
    dsimp only at hq ⊢
    have hc := (cell_of_row W z 0 _ _ _ h1).trans rfl
    have hf : W.frozen? ⟨z, 0, none⟩ = false := by simp only [World.frozen?, h1]; rfl
    have hq0 := (cell_of_row W q 0 _ _ _ hq).trans rfl
    have hq1 := (cell_of_row W q 1 _ _ _ hq).trans rfl
    have hzl : z < W.heap.size := (Array.getElem?_eq_some_iff.1 h1).1
    have hvf : ∃ A n c, v = .slice A n c := by
      rcases h2.2 with ⟨rfl, _⟩ | ⟨g, cap, cur, rfl, _⟩
      · exact ⟨_, _, _, rfl⟩
      · exact ⟨_, _, _, rfl⟩
    have H1 := Lib.hid h1
    have H2 := Lib.hid h2
    have HX := Lib.hid hx
    clear h1 h2 hb hx hq
    obtain ⟨vA, vn, vc, rfl⟩ := hvf
    obtain ⟨i0, hi0, hz0, hzs, hzb⟩ := info_parts info54
    have HINF := Lib.hid (And.intro hi0 (And.intro hz0 (And.intro hzs hzb)))
    clear hi0 hz0 hzs hzb
    gi_wp2_with ((with_reducible refine at_dstIn (N := 11) rfl ?_); refine Mark.mk_ ?_)
    refine Mark.un ?_
    obtain ⟨hi0, hz0, hzs, hzb⟩ := HINF.out
    refine wpListIn_append_own _ rfl _ _ 47 rfl z 54 i0 _ 2 16 Try.underlying47 hi0 hz0 hzs hzb rfl (by decide) _ i (flat (xs.take i)) rfl (H2.out.alloc _) ⟨W.heap.size, 0, none⟩ 1 1 (flat [(x1, x2)]) rfl rfl ?c1 (oneCell_flat _) (by unfold maxLen; omega) (by omega) (by simp; omega) ?_
    case c1 => exact news2 (x := (x1, x2)) ((cell_of_row _ _ 0 _ _ _ (heap_alloc_new W _)).trans rfl) ((cell_of_row _ _ 1 _ _ _ (heap_alloc_new W _)).trans rfl)
    intro v' w1 hown hg _
    have HP := Lib.hid (CI.push (by rw [HZ.out]; exact Nat.le_refl _) HI.out.below H1.out H2.out HX.out hown hg)
    have hz1 : w1.heap[z]? = some (.cells #[.slice vA vn vc] 47 (0, 0)) := (hg.block z (by simp; omega) (fun e => by
      obtain ⟨_, c, hc⟩ := own_cells H2.out e.symm
      rw [H1.out] at hc; cases hc)).trans ((Below.heap_alloc W _ z hzl).trans H1.out)
    obtain ⟨g', cap', rfl⟩ := ownsRow_succ hown
    have hc1 := (cell_of_row w1 z 0 _ _ _ hz1).trans rfl
    have hf1 : w1.frozen? ⟨z, 0, none⟩ = false := by simp only [World.frozen?, hz1]; rfl
    clear hown hg hz1 hc hf hq0 hq1 hi0 hz0 hzs hzb
    gi_wp2
    exact HP.out
  case done =>
    rintro D W hD hK hI
    obtain ⟨⟨v, h1, h2⟩, hb⟩ := hI
    rw [List.take_length] at h2
    have hT : Turned W (W.putObj D (.deferred none)) (fun j => j = D) := putObj_turned _ _ _
    have hP : CatPost w xs (.returned v) (W.putObj D (.deferred none)) := by
      refine ⟨v, v.ownBlock, rfl, Row.of_own ?_ hlx, putObj_below hb (by rw [HZ.out]; have := HS.out; omega) _⟩
      rw [HZ.out]
      rcases h2.2 with h3 | ⟨g, cap, cur, rfl, hgb, hh, r⟩
      · exact ⟨h2.1, .inl h3⟩
      · refine ⟨h2.1, .inr ⟨g, cap, cur, rfl, hgb, (hT.block g (Array.getElem?_eq_some_iff.1 hh).1 (fun e => ?_)).trans hh, r⟩⟩
        subst e; rw [hK] at hh; cases hh
    have hvf : ∃ A n c, v = .slice A n c := by
      rcases h2.2 with ⟨rfl, _⟩ | ⟨g, cap, cur, rfl, _⟩
      · exact ⟨_, _, _, rfl⟩
      · exact ⟨_, _, _, rfl⟩
    obtain ⟨vA, vn, vc, rfl⟩ := hvf
    have hc := (cell_of_row W z 0 _ _ _ h1).trans rfl
    have HP := Lib.hid hP
    have HK := Lib.hid hK
    clear hP hK h2 h1 hb hT
    go_wp2
    refine ⟨by simp, .inl ⟨_, _, rfl, run_takeDeferred HK.out, ?_⟩⟩
    refine ⟨_, results_tmp (show Try.f52.results = #[.tmp 4] from rfl) _ _ _, ?_⟩
    exact HP.out
set_option maxRecDepth 100000 in
theorem collect_c {xs : List (Int × Int)} {bx b cap : Nat} {A : Option Addr} (hlx : xs.length ≤ 1048576) (hs : Src xs bx A b cap w) :
    Calls Try.prog 46 #[.func (.func 48) #[] #[.pointer (some ⟨bx, 0, none⟩)]] w (CatPost w xs) := by
  have HA := Lib.hid (appendSeq_c hlx hs)
  clear hs
  go_enter Try.func46, Try.ntmps46
  go_wp2_with fail
  have hX := HA.out; go_fit hX; clear hX; intro e w1 hP
  have HP := Lib.hid hP
  obtain ⟨v, k, rfl, _⟩ := hP
  go_wp2
  go_ret
  exact HP.out
end Go.Proofs.Ytppefdodhbdlpaa.H
