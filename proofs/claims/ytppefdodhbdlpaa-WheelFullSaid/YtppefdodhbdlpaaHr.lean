import Derived.Test.YtppefdodhbdlpaaHq
namespace Go.Proofs.Ytppefdodhbdlpaa.H
open Go.RowKit Go.Shelf
set_option linter.unusedVariables false
set_option linter.unusedSimpArgs false
variable {w : World} {B g : Nat} {ks : Nat → Option Nat} {vs : Nat → Value} {S : Nat → List (Int × Int)} {now n : Int} {m : List (Int × Int)}
theorem WP.ret {r r2 : Value} {m' : List (Int × Int)} {now' : Int} {e : Ending} {w' : World} (h : WP w B g ks r m' now' e w') : WP w B g ks r2 m' now' (.returned r2) w' := ⟨rfl, h.2⟩
theorem Wh.cn (h : Wh w B g ks m now) : w.cell? ⟨g, 65, none⟩ = some (.int .i64 m.length) := by obtain ⟨_, vs, h⟩ := h; exact h.cn
theorem Wh.gl (h : Wh w B g ks m now) : g < w.heap.size := by obtain ⟨_, vs, h⟩ := h; exact (Array.getElem?_eq_some_iff.1 h.hg).1
set_option maxHeartbeats 1000000 in
set_option maxRecDepth 100000 in
theorem set_c (h : Wh w B g ks m now) (id tick : Int) (hB : B ≤ w.heap.size) :
    Calls Try.prog 9 #[.pointer (some ⟨g, 0, none⟩), .int .i64 id, .int .i64 tick] w (WP w B g ks (.int .i64 (setE m id tick)) (setM m id tick) now) := by
  have HG := Lib.hid (get_wh h id)
  have HR := Lib.hid (fun W => right_c tick W)
  have HW : Aside (Wh w B g ks m now) := h
  have hgl := h.gl
  clear h
  cases hok : okTick tick with
  | false =>
    have hE : setE m id tick = 11 := by unfold setE; rw [hok]; rfl
    have hM : setM m id tick = m := by unfold setM; rw [hE]; rfl
    rw [hE, hM]
    rw [hok] at HR
    clear hok hE hM
    generalize tickOf m id = tk at HG
    generalize has m id = hs at HG
    go_enter Try.func9, Try.ntmps9
    go_wp2_with fail
    have hX := HG.out; go_fit hX; clear hX; rintro e w1 ⟨rfl, hb1⟩
    have HB : Aside (Below w.heap.size w w1) := hb1; clear hb1
    go_wp2_with fail
    have hX := HR.out w1; go_fit hX; clear hX; rintro e w' ⟨rfl, rfl⟩
    go_wp2
    go_ret
    exact WP.of_below HW.out HB.out _
  | true =>
    rw [hok] at HR
    cases hhs : has m id with
    | true =>
      have hE : setE m id tick = 13 := by unfold setE; rw [hok, hhs]; rfl
      have hM : setM m id tick = m := by unfold setM; rw [hE]; rfl
      rw [hE, hM]
      rw [hhs] at HG
      clear hok hE hM hhs
      generalize tickOf m id = tk at HG
      go_enter Try.func9, Try.ntmps9
      go_wp2_with fail
      have hX := HG.out; go_fit hX; clear hX; rintro e w1 ⟨rfl, hb1⟩
      have HB : Aside (Below w.heap.size w w1) := hb1; clear hb1
      go_wp2_with fail
      have hX := HR.out w1; go_fit hX; clear hX; rintro e w' ⟨rfl, rfl⟩
      go_wp2
      go_ret
      exact WP.of_below HW.out HB.out _
    | false =>
      rw [hhs] at HG
      by_cases hl : 1024 ≤ m.length
      · have hE : setE m id tick = 15 := by unfold setE; rw [hok, hhs]; simp [hl]
        have hM : setM m id tick = m := by unfold setM; rw [hE]; rfl
        rw [hE, hM]
        clear hok hE hM hhs
        generalize tickOf m id = tk at HG
        obtain ⟨l, HL⟩ : ∃ l, Hid (m.length = l) := ⟨_, Lib.hid rfl⟩
        rw [HL.out] at hl
        have hlz : (1024 : Int) ≤ (l : Int) := by omega
        go_enter Try.func9, Try.ntmps9
        go_wp2_with fail
        have hX := HG.out; go_fit hX; clear hX; rintro e w1 ⟨rfl, hb1⟩
        have HB : Aside (Below w.heap.size w w1) := hb1
        have hcn := (hb1.cell (p := ⟨g, 65, none⟩) hgl).trans HW.out.cn
        rw [HL.out] at hcn
        clear hb1
        go_wp2_with fail
        have hX := HR.out w1; go_fit hX; clear hX; rintro e w' ⟨rfl, rfl⟩
        go_wp2
        go_ret
        exact WP.of_below HW.out HB.out _
      · have hE : setE m id tick = 0 := by unfold setE; rw [hok, hhs]; simp [hl]
        have hM : setM m id tick = ins m (id, tick) := by unfold setM; rw [hE]; rfl
        rw [hE, hM]
        have HPUT := Lib.hid (fun W (hb : Below w.heap.size w W) => put_wh (HW.out.below hb) (id, tick) hhs hok (by omega) (Nat.le_trans hB hb.size))
        clear hok hE hM hhs
        generalize tickOf m id = tk at HG
        obtain ⟨l, HL⟩ : ∃ l, Hid (m.length = l) := ⟨_, Lib.hid rfl⟩
        rw [HL.out] at hl
        have hlz : (l : Int) < 1024 := by omega
        clear hl
        go_enter Try.func9, Try.ntmps9
        go_wp2_with fail
        have hX := HG.out; go_fit hX; clear hX; rintro e w1 ⟨rfl, hb1⟩
        have HB : Aside (Below w.heap.size w w1) := hb1
        have hcn := (hb1.cell (p := ⟨g, 65, none⟩) hgl).trans HW.out.cn
        rw [HL.out] at hcn
        clear hb1
        go_wp2_with fail
        have hX := HR.out w1; go_fit hX; clear hX; rintro e w' ⟨rfl, rfl⟩
        go_wp2_with fail
        have hX := HPUT.out w1 HB.out; go_fit hX; clear hX; intro e w2 hP
        have HP := Lib.hid (WP.after_below HW.out HB.out hP)
        obtain ⟨rfl, _⟩ := hP
        go_wp2
        go_ret
        exact HP.out.ret
end Go.Proofs.Ytppefdodhbdlpaa.H
