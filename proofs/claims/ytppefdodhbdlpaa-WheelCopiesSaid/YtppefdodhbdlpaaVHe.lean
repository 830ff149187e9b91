import Derived.Test.YtppefdodhbdlpaaVHd
namespace Go.Proofs.Ytppefdodhbdlpaa.H
open Go.RowKit
set_option linter.unusedVariables false
set_option linter.unusedSimpArgs false
variable {w : World} {B g : Nat} {ks : Nat → Option Nat} {vs : Nat → Value} {S : Nat → List (Int × Int)} {now n : Int}
set_option maxHeartbeats 4000000 in
set_option maxRecDepth 100000 in
theorem search_c {v : Value} {xs : List (Int × Int)} {k : Option Nat} (h : Row w B v xs k) (t : Int × Int) (p : Nat) (hp : p ≤ xs.length) (hlo : ∀ j (hj : j < xs.length), j < p → ordI xs[j] t < 0) (hhi : ∀ j (hj : j < xs.length), p ≤ j → ¬ ordI xs[j] t < 0) :
    Calls Try.prog 31 #[v, .agg #[.int .i64 t.1, .int .i64 t.2], .func (.func 32) #[] #[]] w fun e w' => (∃ f : Bool, e = .returned (.tuple #[.int .i64 p, .bool f])) ∧ Below w.heap.size w w' := by
  cases k with
  | none =>
    obtain ⟨rfl, rfl⟩ := h
    obtain rfl : p = 0 := by simpa using hp
    clear hlo hhi
    obtain ⟨t1, t2⟩ := t
    dsimp only
    go_enter Try.func31, Try.ntmps31
    go_wp2
    go_loopg [9, 10, 11] 0 (fun gg s9 s10 _ wr => s9 = .int .i64 0 ∧ s10 = .int .i64 0 ∧ Aside (Below w.heap.size w wr))
    case atStart => exact ⟨rfl, rfl, (Below.refl _ _).alloc (Nat.le_refl _) _⟩
    case round =>
      obtain ⟨rfl, rfl, BW⟩ := hrel
      go_wp2
      go_quiet (fail)
      go_wp2
      go_ret2
      exact ⟨⟨_, rfl⟩, below_drewN BW.out _⟩
  | some b =>
    have HAT : Aside (∀ j (hj : j < xs.length), w.cell? ⟨b, j * 2, none⟩ = some (.int .i64 xs[j].1) ∧ w.cell? ⟨b, j * 2 + 1, none⟩ = some (.int .i64 xs[j].2)) := fun j hj => h.at_ hj
    have hbl := h.lt
    obtain ⟨cap, cs, rfl, hB, hb, hsz, hl, hm, hf, h1⟩ := h
    clear hb hf hsz
    obtain ⟨n, HN⟩ : ∃ n, Hid (xs.length = n) := ⟨_, Lib.hid rfl⟩
    rw [HN.out] at hl hp h1 ⊢
    have HLO : Aside (∀ j (hj : j < xs.length), j < p → ordI xs[j] t < 0) := hlo
    have HHI : Aside (∀ j (hj : j < xs.length), p ≤ j → ¬ ordI xs[j] t < 0) := hhi
    clear hlo hhi
    obtain ⟨t1, t2⟩ := t
    dsimp only
    have HQ0 : Hid ((w.alloc (.cells #[.int .i64 t1, .int .i64 t2] 54)).cell? ⟨w.heap.size, 0, none⟩ = some (.int .i64 t1)) := Lib.hid ((cell_of_row _ _ 0 _ _ _ (heap_alloc_new w _)).trans rfl)
    have HQ1 : Hid ((w.alloc (.cells #[.int .i64 t1, .int .i64 t2] 54)).cell? ⟨w.heap.size, 1, none⟩ = some (.int .i64 t2)) := Lib.hid ((cell_of_row _ _ 1 _ _ _ (heap_alloc_new w _)).trans rfl)
    go_enter Try.func31, Try.ntmps31
    go_wp2
    go_loopg [9, 10, 11] n (fun gg s9 s10 _ wr => ∃ i j : Nat, i ≤ p ∧ p ≤ j ∧ j ≤ n ∧ j - i ≤ gg ∧ s9 = .int .i64 i ∧ s10 = .int .i64 j ∧ Aside (Below (w.alloc (.cells #[.int .i64 t1, .int .i64 t2] 54)).heap.size (w.alloc (.cells #[.int .i64 t1, .int .i64 t2] 54)) wr))
    case atStart => exact ⟨0, n, by omega, hp, by omega, by omega, rfl, rfl, Below.refl _ _⟩
    case round =>
      obtain ⟨i, j, hi, hj, hjn, hgg, rfl, rfl, BW⟩ := hrel
      by_cases hlt : i < j
      · have hltz : (i : Int) < (j : Int) := by omega
        have hijz : (0 : Int) ≤ (i : Int) + (j : Int) := by omega
        have hijz2 : (i : Int) + (j : Int) ≤ 2097152 := by omega
        obtain ⟨hh, hhd⟩ : ∃ hh : Nat, Hid (((i : Int) + (j : Int)) / 2 = (hh : Int)) := ⟨(i + j) / 2, Lib.hid (by omega)⟩
        have hh1 : i ≤ hh := by have := hhd.out; omega
        have hh2 : hh < j := by have := hhd.out; omega
        have hhn : hh < xs.length := by rw [HN.out]; omega
        have hhz : (hh : Int) < (n : Int) := by omega
        have hB0 : Below w.heap.size w wr := ((Below.refl _ _).alloc (Nat.le_refl _) _).trans (BW.out.mono (by simp))
        obtain ⟨l0, l1⟩ := HAT.out hh hhn
        have c0 : wr.cell? ⟨b, hh * 2, none⟩ = some (.int .i64 xs[hh].1) := (hB0.cell (p := ⟨b, _, none⟩) hbl).trans l0
        have c1 : wr.cell? ⟨b, hh * 2 + 1, none⟩ = some (.int .i64 xs[hh].2) := (hB0.cell (p := ⟨b, _, none⟩) hbl).trans l1
        have d0 : wr.cell? ⟨w.heap.size, 0, none⟩ = some (.int .i64 t1) := (BW.out.cell (p := ⟨w.heap.size, 0, none⟩) (by simp)).trans HQ0.out
        have d1 : wr.cell? ⟨w.heap.size, 1, none⟩ = some (.int .i64 t2) := (BW.out.cell (p := ⟨w.heap.size, 1, none⟩) (by simp)).trans HQ1.out
        have hs0 : b < wr.heap.size := Nat.lt_of_lt_of_le hbl hB0.size
        have hs1 : w.heap.size < wr.heap.size := by have := BW.out.size; simp at this; omega
        obtain ⟨x1, hx1⟩ : ∃ x1, Hid (xs[hh].1 = x1) := ⟨_, Lib.hid rfl⟩
        obtain ⟨x2, hx2⟩ : ∃ x2, Hid (xs[hh].2 = x2) := ⟨_, Lib.hid rfl⟩
        have hxx : Hid (xs[hh] = (x1, x2)) := Lib.hid (by rw [← hx1.out, ← hx2.out])
        rw [hx1.out] at c0
        rw [hx2.out] at c1
        clear l0 l1
        have HB0 : Aside (Below w.heap.size w wr) := hB0
        clear hB0
        go_wp2
        rw [hhd.out]
        go_region_held3 (fun W => W.cell? ⟨b, hh * 2, none⟩ = some (.int .i64 x1) ∧ W.cell? ⟨b, hh * 2 + 1, none⟩ = some (.int .i64 x2) ∧ W.cell? ⟨w.heap.size, 0, none⟩ = some (.int .i64 t1) ∧ W.cell? ⟨w.heap.size, 1, none⟩ = some (.int .i64 t2) ∧ Below wr.heap.size wr W)
          (first
            | exact ⟨c0, c1, d0, d1, ⟨rfl, rfl, rfl, Nat.le_refl _, fun _ _ => rfl⟩⟩
            | (obtain ⟨s0, s1, s2, s3, s4⟩ := ‹_ ∧ _ ∧ _ ∧ _ ∧ _›
               exact ⟨(hb'.cell (p := ⟨b, _, none⟩) (Nat.lt_of_lt_of_le hs0 s4.size)).trans s0, (hb'.cell (p := ⟨b, _, none⟩) (Nat.lt_of_lt_of_le hs0 s4.size)).trans s1, (hb'.cell (p := ⟨w.heap.size, 0, none⟩) (Nat.lt_of_lt_of_le hs1 s4.size)).trans s2, (hb'.cell (p := ⟨w.heap.size, 1, none⟩) (Nat.lt_of_lt_of_le hs1 s4.size)).trans s3, s4.trans (hb'.mono s4.size)⟩)
            | go_keep)
          (first | (go_at_fn 32; refine (order_c (x1, x2) (t1, t2) _).mono ?_; rintro e w' ⟨rfl, hb'⟩) | (refine (order_c (x1, x2) (t1, t2) _).mono ?_; rintro e w' ⟨rfl, hb'⟩))
        rename_i hH
        have hBw : Aside (Below wr.heap.size wr _) := hH.2.2.2.2
        clear hH hb' c0 c1 d0 d1
        obtain ⟨oo, hoo⟩ : ∃ oo, Hid (ordI (x1, x2) (t1, t2) = oo) := ⟨_, Lib.hid rfl⟩
        rw [hoo.out]
        by_cases ho : oo < 0
        · have hod : decide (oo < 0) = true := decide_eq_true ho
          have hp2 : hh < p := by
            by_cases e : hh < p
            · exact e
            · have := HHI.out hh hhn (by omega); rw [hxx.out, hoo.out] at this; omega
          go_wp2
          go_roundg (j - (hh + 1))
          case measure => omega
          case rel => exact ⟨hh + 1, j, by omega, hj, hjn, by omega, by go_num, rfl, BW.out.trans (hBw.out.mono BW.out.size)⟩
        · have hod : decide (oo < 0) = false := decide_eq_false ho
          have hp2 : p ≤ hh := by
            by_cases e : hh < p
            · have := HLO.out hh hhn e; rw [hxx.out, hoo.out] at this; omega
            · omega
          go_wp2
          go_roundg (hh - i)
          case measure => omega
          case rel => exact ⟨i, hh, hi, hp2, by omega, by omega, rfl, rfl, BW.out.trans (hBw.out.mono BW.out.size)⟩
      · have hltz : ¬ (i : Int) < (j : Int) := by omega
        have hip : i = p := by omega
        subst hip
        by_cases hpn : i < n
        · have hpz : (i : Int) < (n : Int) := by omega
          have hpd : decide (i < n) = true := decide_eq_true hpn
          have hhn : i < xs.length := by rw [HN.out]; omega
          have hB0 : Below w.heap.size w wr := ((Below.refl _ _).alloc (Nat.le_refl _) _).trans (BW.out.mono (by simp))
          obtain ⟨l0, l1⟩ := HAT.out i hhn
          have c0 : wr.cell? ⟨b, i * 2, none⟩ = some (.int .i64 xs[i].1) := (hB0.cell (p := ⟨b, _, none⟩) hbl).trans l0
          have c1 : wr.cell? ⟨b, i * 2 + 1, none⟩ = some (.int .i64 xs[i].2) := (hB0.cell (p := ⟨b, _, none⟩) hbl).trans l1
          have d0 : wr.cell? ⟨w.heap.size, 0, none⟩ = some (.int .i64 t1) := (BW.out.cell (p := ⟨w.heap.size, 0, none⟩) (by simp)).trans HQ0.out
          have d1 : wr.cell? ⟨w.heap.size, 1, none⟩ = some (.int .i64 t2) := (BW.out.cell (p := ⟨w.heap.size, 1, none⟩) (by simp)).trans HQ1.out
          have hs0 : b < wr.heap.size := Nat.lt_of_lt_of_le hbl hB0.size
          have hs1 : w.heap.size < wr.heap.size := by have := BW.out.size; simp at this; omega
          obtain ⟨x1, hx1⟩ : ∃ x1, Hid (xs[i].1 = x1) := ⟨_, Lib.hid rfl⟩
          obtain ⟨x2, hx2⟩ : ∃ x2, Hid (xs[i].2 = x2) := ⟨_, Lib.hid rfl⟩
          rw [hx1.out] at c0
          rw [hx2.out] at c1
          clear l0 l1
          have HB0 : Aside (Below w.heap.size w wr) := hB0
          clear hB0
          go_wp2
          go_region_held3 (fun W => W.cell? ⟨b, i * 2, none⟩ = some (.int .i64 x1) ∧ W.cell? ⟨b, i * 2 + 1, none⟩ = some (.int .i64 x2) ∧ W.cell? ⟨w.heap.size, 0, none⟩ = some (.int .i64 t1) ∧ W.cell? ⟨w.heap.size, 1, none⟩ = some (.int .i64 t2) ∧ Below wr.heap.size wr W)
            (first
              | exact ⟨c0, c1, d0, d1, ⟨rfl, rfl, rfl, Nat.le_refl _, fun _ _ => rfl⟩⟩
              | (obtain ⟨s0, s1, s2, s3, s4⟩ := ‹_ ∧ _ ∧ _ ∧ _ ∧ _›
                 exact ⟨(hb'.cell (p := ⟨b, _, none⟩) (Nat.lt_of_lt_of_le hs0 s4.size)).trans s0, (hb'.cell (p := ⟨b, _, none⟩) (Nat.lt_of_lt_of_le hs0 s4.size)).trans s1, (hb'.cell (p := ⟨w.heap.size, 0, none⟩) (Nat.lt_of_lt_of_le hs1 s4.size)).trans s2, (hb'.cell (p := ⟨w.heap.size, 1, none⟩) (Nat.lt_of_lt_of_le hs1 s4.size)).trans s3, s4.trans (hb'.mono s4.size)⟩)
              | go_keep)
            (first | (go_at_fn 32; refine (order_c (x1, x2) (t1, t2) _).mono ?_; rintro e w' ⟨rfl, hb'⟩) | (refine (order_c (x1, x2) (t1, t2) _).mono ?_; rintro e w' ⟨rfl, hb'⟩))
          rename_i hH
          have hBw : Aside (Below wr.heap.size wr _) := hH.2.2.2.2
          clear hH hb' c0 c1 d0 d1
          go_wp2
          go_ret2
          exact ⟨⟨_, rfl⟩, HB0.out.trans (hBw.out.mono HB0.out.size)⟩
        · have hpz : ¬ (i : Int) < (n : Int) := by omega
          have hpd : decide (i < n) = false := decide_eq_false hpn
          go_wp2
          go_quiet (fail)
          go_wp2
          go_ret2
          exact ⟨⟨_, rfl⟩, below_drewN (((Below.refl _ _).alloc (Nat.le_refl _) _).trans (BW.out.mono (by simp))) _⟩
end Go.Proofs.Ytppefdodhbdlpaa.H
