import Derived.Test.YtppefdodhbdlpaaVHc
import Derived.Deep.RegionHeld3
import Derived.Deep.DeepCutAuto
import Derived.Deep.CutBlock
namespace Go.Proofs.Ytppefdodhbdlpaa.H
open Go.RowKit
set_option linter.unusedVariables false
set_option linter.unusedSimpArgs false
variable {w : World} {B g : Nat} {ks : Nat → Option Nat} {vs : Nat → Value} {S : Nat → List (Int × Int)} {now n : Int}
def hd (xs : List (Int × Int)) : Int × Int := xs.headD (0, 0)
def better (S : Nat → List (Int × Int)) (i : Nat) (best : Int) : Bool := (S i).length != 0 && (decide (best < 0) || decide (ordI (hd (S i)) (hd (S best.toNat)) < 0))
def fstFrom (S : Nat → List (Int × Int)) : Nat → Nat → Int → Int
  | 0, _, best => best
  | d + 1, i, best => fstFrom S d (i + 1) (if better S i best then i else best)
def fst (S : Nat → List (Int × Int)) : Int := fstFrom S 64 0 (-1)
theorem Row.form {v : Value} {xs : List (Int × Int)} {k : Option Nat} (h : Row w B v xs k) : ∃ A cap, v = .slice A xs.length cap := by
  cases k with
  | none => obtain ⟨rfl, rfl⟩ := h; exact ⟨_, _, rfl⟩
  | some b => obtain ⟨cap, cs, rfl, _⟩ := h; exact ⟨_, _, rfl⟩
theorem Row.head {v : Value} {xs : List (Int × Int)} {k : Option Nat} (h : Row w B v xs k) (hl : 0 < xs.length) :
    ∃ b cap, b < w.heap.size ∧ v = .slice (some ⟨b, 0, none⟩) xs.length cap ∧ w.cell? ⟨b, 0, none⟩ = some (.int .i64 (hd xs).1) ∧ w.cell? ⟨b, 1, none⟩ = some (.int .i64 (hd xs).2) := by
  obtain ⟨b, cap, rfl, rfl⟩ := h.some_ hl
  have := h.at_ hl
  refine ⟨b, cap, h.lt, rfl, ?_⟩
  cases xs with
  | nil => simp at hl
  | cons x xs => exact this
theorem below_drewN {m : Nat} {w W : World} (h : Below m w W) (k : Nat) : Below m w (W.drewN k) := ⟨h.os, h.tape, h.output, h.size, h.block⟩
set_option maxHeartbeats 4000000 in
set_option maxRecDepth 100000 in
theorem first_c (h : IsW w B g ks vs S now n) : Calls Try.prog 28 #[.pointer (some ⟨g, 0, none⟩)] w fun e w' => e = .returned (.int .i64 (fst S)) ∧ Below w.heap.size w w' := by
  have hl : Hid (World.rangeAt w g 0 ((List.range 64).map vs)) := Lib.hid (h.range (Below.refl _ _))
  obtain ⟨A, hA⟩ : ∃ A, Hid (((List.range 64).map vs).toArray = A) := ⟨_, Lib.hid rfl⟩
  have hAt : Hid (∀ k, k < 64 → A[k]? = some (vs k)) := Lib.hid (fun k hk => by rw [← hA.out]; simp [hk])
  have HI : Aside (IsW w B g ks vs S now n) := h
  have hgl : g < w.heap.size := (Array.getElem?_eq_some_iff.1 h.hg).1
  clear h
  go_enter Try.func28, Try.ntmps28
  go_wp2_with ((with_reducible refine at_dst (N := 9) rfl ?_); refine wpList_load_mid rfl 48 _ rfl g 0 rfl _ _ hl.out Try.underlying48 rfl (by kernel_rfl) ?_; rw [hA.out])
  go_loopg [3, 4, 5, 10] 64 (fun gg s3 _ _ s10 wr => ∃ kk : Nat, ∃ best : Int, kk ≤ 64 ∧ 64 - kk ≤ gg ∧ -1 ≤ best ∧ best < 64 ∧ s3 = .int .i64 best ∧ s10 = .int .i64 kk ∧ Aside (Below w.heap.size w wr) ∧ Aside (fst S = fstFrom S (64 - kk) kk best) ∧ Aside (0 ≤ best → 0 < (S best.toNat).length))
  case atStart => exact ⟨0, -1, by omega, by omega, by omega, by omega, rfl, rfl, Below.refl _ _, rfl, fun h => by omega⟩
  case round =>
    obtain ⟨kk, best, hkk, hgg, hb0, hb1, rfl, rfl, BW, E, N⟩ := hrel
    by_cases hlt : kk < 64
    · have hltz : (kk : Int) < 64 := by omega
      have hI := HI.out.below BW.out
      have hix := run_index64 A kk hlt (vs kk) (hAt.out kk hlt)
      have HF : Hid (fstFrom S (64 - kk) kk best = fstFrom S (64 - (kk + 1)) (kk + 1) (if better S kk best then kk else best)) := Lib.hid (by rw [show 64 - kk = (64 - (kk + 1)) + 1 by omega]; rfl)
      by_cases h0 : (S kk).length = 0
      · obtain ⟨A', cap', e1⟩ := (hI.rows kk hlt).form
        rw [e1, h0] at hix
        have HB : Hid (better S kk best = false) := Lib.hid (by unfold better; rw [h0]; rfl)
        clear hI e1
        have H0 : Hid ((S kk).length = 0) := Lib.hid h0
        clear h0
        go_wp2
        go_quiet (fail)
        go_wp2
        go_roundg (64 - (kk + 1))
        case measure => omega
        case rel =>
          refine ⟨kk + 1, best, by omega, by omega, hb0, hb1, rfl, by go_num, below_drewN BW.out _, ?_, N⟩
          show fst S = _
          rw [E.out, HF.out, HB.out]; rfl
      · obtain ⟨b, cap, hbl, e1, c0, c1⟩ := (hI.rows kk hlt).head (by omega)
        rw [e1] at hix
        obtain ⟨m, hm⟩ : ∃ m, Hid ((S kk).length = m) := ⟨_, Lib.hid rfl⟩
        rw [hm.out] at hix h0
        have hm0 : (0 : Int) < (m : Int) := by omega
        have hm1 : decide (0 < m) = true := decide_eq_true (by omega)
        by_cases hbn : best < 0
        · have HB : Hid (better S kk best = true) := Lib.hid (by unfold better; rw [hm.out, decide_eq_true hbn]; simp [h0])
          clear hI e1 c0 c1
          have hbd : decide (best < 0) = true := decide_eq_true hbn
          go_wp2
          go_quiet (fail)
          go_wp2
          go_roundg (64 - (kk + 1))
          case measure => omega
          case rel =>
            refine ⟨kk + 1, kk, by omega, by omega, by omega, by omega, rfl, by go_num, below_drewN BW.out _, ?_, ?_⟩
            · show fst S = _
              rw [E.out, HF.out, HB.out]; rfl
            · show 0 ≤ (kk : Int) → _
              intro _; rw [Int.toNat_natCast, hm.out]; omega
        · have hbn0 : 0 ≤ best := by omega
          obtain ⟨bk, hbk⟩ : ∃ bk : Nat, best = bk := ⟨best.toNat, by omega⟩
          subst hbk
          have hbk64 : bk < 64 := by omega
          obtain ⟨b', cap', hbl', e1', c0', c1'⟩ := (hI.rows bk hbk64).head (by have := N.out (by omega); simpa using this)
          have hcb : wr.cell? ⟨g, bk, none⟩ = some (.slice (some ⟨b', 0, none⟩) (S bk).length cap') := (hI.c hbk64).trans (by rw [e1'])
          have hgl2 : g < wr.heap.size := Nat.lt_of_lt_of_le hgl BW.out.size
          have hl' : 0 < (S bk).length := by have := N.out (by omega); simpa using this
          obtain ⟨m', hm'⟩ : ∃ m', Hid ((S bk).length = m') := ⟨_, Lib.hid rfl⟩
          rw [hm'.out] at hcb hl'
          obtain ⟨x1, hx1⟩ : ∃ x1, Hid ((hd (S kk)).1 = x1) := ⟨_, Lib.hid rfl⟩
          obtain ⟨x2, hx2⟩ : ∃ x2, Hid ((hd (S kk)).2 = x2) := ⟨_, Lib.hid rfl⟩
          obtain ⟨y1, hy1⟩ : ∃ y1, Hid ((hd (S bk)).1 = y1) := ⟨_, Lib.hid rfl⟩
          obtain ⟨y2, hy2⟩ : ∃ y2, Hid ((hd (S bk)).2 = y2) := ⟨_, Lib.hid rfl⟩
          rw [hx1.out] at c0
          rw [hx2.out] at c1
          rw [hy1.out] at c0'
          rw [hy2.out] at c1'
          have hm0' : (0 : Int) < (m' : Int) := by omega
          have hia := fun W => run_indexAt64 g bk hbk64 W
          have HB : Hid (better S kk bk = decide (ordI (x1, x2) (y1, y2) < 0)) := Lib.hid (by
            unfold better; rw [hm.out, decide_eq_false hbn, Int.toNat_natCast, ← hx1.out, ← hx2.out, ← hy1.out, ← hy2.out]; simp [h0])
          have hbd : decide ((bk : Int) < 0) = false := decide_eq_false hbn
          have hmn : 0 < m := by omega
          have HN : Hid ((S kk).length = m ∧ h0 = h0) := Lib.hid ⟨hm.out, rfl⟩
          clear hI e1 e1'
          go_wp2
          go_region_held3 (fun W => W.cell? ⟨b, 0, none⟩ = some (.int .i64 x1) ∧ W.cell? ⟨b, 1, none⟩ = some (.int .i64 x2) ∧ W.cell? ⟨g, bk, none⟩ = some (.slice (some ⟨b', 0, none⟩) m' cap') ∧ W.cell? ⟨b', 0, none⟩ = some (.int .i64 y1) ∧ W.cell? ⟨b', 1, none⟩ = some (.int .i64 y2) ∧ Below wr.heap.size wr W)
            (first
              | exact ⟨c0, c1, hcb, c0', c1', ⟨rfl, rfl, rfl, Nat.le_refl _, fun _ _ => rfl⟩⟩
              | (obtain ⟨s0, s1, s2, s3, s4, s5⟩ := ‹_ ∧ _ ∧ _ ∧ _ ∧ _ ∧ _›
                 exact ⟨(hb'.cell (p := ⟨b, 0, none⟩) (Nat.lt_of_lt_of_le hbl s5.size)).trans s0, (hb'.cell (p := ⟨b, 1, none⟩) (Nat.lt_of_lt_of_le hbl s5.size)).trans s1, (hb'.cell (p := ⟨g, bk, none⟩) (Nat.lt_of_lt_of_le hgl2 s5.size)).trans s2, (hb'.cell (p := ⟨b', 0, none⟩) (Nat.lt_of_lt_of_le hbl' s5.size)).trans s3, (hb'.cell (p := ⟨b', 1, none⟩) (Nat.lt_of_lt_of_le hbl' s5.size)).trans s4, s5.trans (hb'.mono s5.size)⟩)
              | go_keep)
            (first | (go_at_call 32; refine (order_c (x1, x2) (y1, y2) _).mono ?_; rintro e w' ⟨rfl, hb'⟩))
          rename_i hH
          have hBw : Aside (Below wr.heap.size wr _) := hH.2.2.2.2.2
          clear hH hb' c0 c1 c0' c1' hcb hia
          obtain ⟨oo, hoo⟩ : ∃ oo, Hid (ordI (x1, x2) (y1, y2) = oo) := ⟨_, Lib.hid rfl⟩
          rw [hoo.out] at HB ⊢
          by_cases ho : oo < 0
          · have hod : decide (oo < 0) = true := decide_eq_true ho
            go_wp2
            go_roundg (64 - (kk + 1))
            case measure => omega
            case rel =>
              refine ⟨kk + 1, kk, by omega, by omega, by omega, by omega, rfl, by go_num, BW.out.trans (hBw.out.mono BW.out.size), ?_, ?_⟩
              · show fst S = _
                rw [E.out, HF.out, HB.out, if_pos hod]
              · show 0 ≤ (kk : Int) → _
                intro _; rw [Int.toNat_natCast, hm.out]; omega
          · have hod : decide (oo < 0) = false := decide_eq_false ho
            go_wp2
            go_roundg (64 - (kk + 1))
            case measure => omega
            case rel =>
              refine ⟨kk + 1, bk, by omega, by omega, hb0, hb1, rfl, by go_num, BW.out.trans (hBw.out.mono BW.out.size), ?_, N⟩
              show fst S = _
              rw [E.out, HF.out, HB.out, hod]; rfl
    · have hltz : ¬ (kk : Int) < 64 := by omega
      have hkn : Hid (kk = 64) := Lib.hid (by omega)
      go_wp2
      go_ret
      have hE : fst S = best := by rw [E.out, hkn.out]; rfl
      exact ⟨by rw [hE]; rfl, BW.out⟩
end Go.Proofs.Ytppefdodhbdlpaa.H
