import Derived.Test.YtppefdodhbdlpaaHr
namespace Go.Proofs.Ytppefdodhbdlpaa.H
open Go.RowKit Go.Shelf
set_option linter.unusedVariables false
set_option linter.unusedSimpArgs false
variable {w : World} {B g : Nat} {ks : Nat → Option Nat} {vs : Nat → Value} {S : Nat → List (Int × Int)} {now n : Int} {m : List (Int × Int)}
theorem find_wh_no (h : Wh w B g ks m now) {id : Int} (hh : has m id = false) :
    Calls Try.prog 26 #[.pointer (some ⟨g, 0, none⟩), .int .i64 id] w fun e w' => e = .returned (.tuple #[.int .i64 0, .int .i64 0, .bool false]) ∧ Below w.heap.size w w' := by
  obtain ⟨hg, vs, hi⟩ := h
  have := find_c hi id
  rw [fnd_no hh] at this
  exact this
theorem find_wh_yes (h : Wh w B g ks m now) {id : Int} (hh : has m id = true) : ∃ i k : Nat, i < 64 ∧ ∃ hk : k < (spoke m i).length, (spoke m i)[k].1 = id ∧
    Calls Try.prog 26 #[.pointer (some ⟨g, 0, none⟩), .int .i64 id] w fun e w' => e = .returned (.tuple #[.int .i64 i, .int .i64 k, .bool true]) ∧ Below w.heap.size w w' := by
  obtain ⟨hg, vs, hi⟩ := h
  obtain ⟨i, k, hi64, hk, h1, h2⟩ := fnd_yes hg hh
  have := find_c hi id
  rw [h2] at this
  exact ⟨i, k, hi64, hk, h1, this⟩
theorem has_del (m : List (Int × Int)) (id : Int) : has (del m id) id = false := has_false.2 (fun x hx => by
  unfold del at hx; rw [List.mem_filter] at hx; simpa using hx.2)
theorem length_del {m : List (Int × Int)} (hg : Good m) {id : Int} (h : has m id = true) : (del m id).length = m.length - 1 := by
  obtain ⟨x, hx, rfl⟩ := has_true.1 h
  exact length_erase_ids hg.ids hx rfl
theorem has_pos {m : List (Int × Int)} {id : Int} (h : has m id = true) : 0 < m.length := by
  obtain ⟨x, hx, _⟩ := has_true.1 h
  exact List.length_pos_of_mem hx
set_option maxHeartbeats 1000000 in
set_option maxRecDepth 100000 in
theorem stop_c (h : Wh w B g ks m now) (id : Int) :
    Calls Try.prog 18 #[.pointer (some ⟨g, 0, none⟩), .int .i64 id] w (WP w B g ks (.int .i64 (stopE m id)) (del m id) now) := by
  have HW : Aside (Wh w B g ks m now) := h
  cases hh : has m id with
  | false =>
    have hE : stopE m id = 14 := by unfold stopE; rw [hh]; rfl
    have hM : del m id = m := by unfold del; rw [List.filter_eq_self]; intro x hx; simpa using has_false.1 hh x hx
    rw [hE, hM]
    have HF := Lib.hid (find_wh_no h hh)
    clear h hE hM hh
    go_enter Try.func18, Try.ntmps18
    go_wp2_with fail
    have hX := HF.out; go_fit hX; clear hX; rintro e w1 ⟨rfl, hb1⟩
    have HB : Aside (Below w.heap.size w w1) := hb1; clear hb1
    go_wp2
    go_ret
    exact WP.of_below HW.out HB.out _
  | true =>
    have hE : stopE m id = 0 := by unfold stopE; rw [hh]; rfl
    rw [hE]
    obtain ⟨i, k, hi, hk, h1, hf⟩ := find_wh_yes h hh
    have HF := Lib.hid hf
    have HT := Lib.hid (fun W (hb : Below w.heap.size w W) => take_wh (HW.out.below hb) hi hk h1)
    clear h hE hh hf h1 hk hi
    go_enter Try.func18, Try.ntmps18
    go_wp2_with fail
    have hX := HF.out; go_fit hX; clear hX; rintro e w1 ⟨rfl, hb1⟩
    have HB : Aside (Below w.heap.size w w1) := hb1; clear hb1
    go_wp2_with fail
    have hX := HT.out w1 HB.out; go_fit hX; clear hX; intro e w2 hP
    have HP := Lib.hid (WP.after_below HW.out HB.out hP)
    obtain ⟨rfl, _⟩ := hP
    go_wp2
    go_ret
    exact HP.out.ret
set_option maxHeartbeats 1000000 in
set_option maxRecDepth 100000 in
theorem move_c (h : Wh w B g ks m now) (id tick : Int) (hB : B ≤ w.heap.size) :
    Calls Try.prog 22 #[.pointer (some ⟨g, 0, none⟩), .int .i64 id, .int .i64 tick] w (WP w B g ks (.int .i64 (moveE m id tick)) (moveM m id tick) now) := by
  have HW : Aside (Wh w B g ks m now) := h
  have HR := Lib.hid (fun W => right_c tick W)
  cases hok : okTick tick with
  | false =>
    have hE : moveE m id tick = 11 := by unfold moveE; rw [hok]; rfl
    have hM : moveM m id tick = m := by unfold moveM; rw [hE]; rfl
    rw [hE, hM]
    rw [hok] at HR
    have HF : ∃ a b c, Hid (Calls Try.prog 26 #[.pointer (some ⟨g, 0, none⟩), .int .i64 id] w fun e w' => e = .returned (.tuple #[.int .i64 a, .int .i64 b, .bool c]) ∧ Below w.heap.size w w') := by
      cases hh : has m id with
      | false => exact ⟨_, _, _, Lib.hid (find_wh_no h hh)⟩
      | true => obtain ⟨i, k, _, _, _, hf⟩ := find_wh_yes h hh; exact ⟨_, _, _, Lib.hid hf⟩
    obtain ⟨a, b, c, HF⟩ := HF
    clear h hE hM hok
    go_enter Try.func22, Try.ntmps22
    go_wp2_with fail
    have hX := HF.out; go_fit hX; clear hX; rintro e w1 ⟨rfl, hb1⟩
    have HB : Aside (Below w.heap.size w w1) := hb1; clear hb1
    go_wp2_with fail
    have hX := HR.out w1; go_fit hX; clear hX; rintro e w' ⟨rfl, rfl⟩
    go_wp2
    go_ret
    exact WP.of_below HW.out HB.out _
  | true =>
    rw [hok] at HR
    cases hh : has m id with
    | false =>
      have hE : moveE m id tick = 14 := by unfold moveE; rw [hok, hh]; rfl
      have hM : moveM m id tick = m := by unfold moveM; rw [hE]; rfl
      rw [hE, hM]
      have HF := Lib.hid (find_wh_no h hh)
      clear h hE hM hok hh
      go_enter Try.func22, Try.ntmps22
      go_wp2_with fail
      have hX := HF.out; go_fit hX; clear hX; rintro e w1 ⟨rfl, hb1⟩
      have HB : Aside (Below w.heap.size w w1) := hb1; clear hb1
      go_wp2_with fail
      have hX := HR.out w1; go_fit hX; clear hX; rintro e w' ⟨rfl, rfl⟩
      go_wp2
      go_ret
      exact WP.of_below HW.out HB.out _
    | true =>
      have hE : moveE m id tick = 0 := by unfold moveE; rw [hok, hh]; rfl
      have hM : moveM m id tick = ins (del m id) (id, tick) := by unfold moveM; rw [hE]; rfl
      rw [hE, hM]
      obtain ⟨i, k, hi, hk, h1, hf⟩ := find_wh_yes h hh
      have HF := Lib.hid hf
      have HT := Lib.hid (fun W (hb : Below w.heap.size w W) => take_wh (HW.out.below hb) hi hk h1)
      have hdl : (del m id).length < 1024 := by have := length_del h.good hh; have := has_pos hh; have := h.good.len; omega
      have HPUT := Lib.hid (fun W ks1 (hw : Wh W B g ks1 (del m id) now) (hs : w.heap.size ≤ W.heap.size) => put_wh hw (id, tick) (has_del m id) hok hdl (Nat.le_trans hB hs))
      clear h hE hM hok hh hf h1 hk hi hdl
      go_enter Try.func22, Try.ntmps22
      go_wp2_with fail
      have hX := HF.out; go_fit hX; clear hX; rintro e w1 ⟨rfl, hb1⟩
      have HB : Aside (Below w.heap.size w w1) := hb1; clear hb1
      go_wp2_with fail
      have hX := HR.out w1; go_fit hX; clear hX; rintro e w' ⟨rfl, rfl⟩
      go_wp2_with fail
      have hX := HT.out w1 HB.out; go_fit hX; clear hX; intro e w2 hP
      have HP := Lib.hid (WP.after_below HW.out HB.out hP)
      obtain ⟨rfl, _⟩ := hP
      obtain ⟨_, ks1, hw1, hT1, ho1⟩ := HP.out
      have HX := Lib.hid (HPUT.out w2 ks1 hw1 hT1.size)
      have HTO := Lib.hid (And.intro hT1 ho1)
      clear hw1 hT1 ho1
      go_wp2_with fail
      have hX := HX.out; go_fit hX; clear hX; intro e w3 hP
      have HP3 := Lib.hid (WP.trans HTO.out.1 HTO.out.2 hP)
      obtain ⟨rfl, _⟩ := hP
      go_wp2
      go_ret
      exact HP3.out.ret
end Go.Proofs.Ytppefdodhbdlpaa.H
