import Derived.Test.YtppefdodhbdlpaaVHl
import Derived.Test.YtppefdodhbdlpaaVHp
namespace Go.Proofs.Ytppefdodhbdlpaa.H
open Go.RowKit Go.Shelf Go.Proofs.Ytppefdodhbdlpaa.PWheelFull Go.Proofs.YtppefdodhbdlpaaW.PrintWords
set_option linter.unusedVariables false
set_option linter.unusedSimpArgs false
variable {w : World} {B g : Nat} {ks : Nat → Option Nat} {vs : Nat → Value} {S : Nat → List (Int × Int)} {now n : Int} {m : List (Int × Int)}
theorem IsW.congr {S' : Nat → List (Int × Int)} {n' : Int} (h : IsW w B g ks vs S now n) (hS : ∀ i, i < 64 → S i = S' i) (hn : n = n') : IsW w B g ks vs S' now n' := by
  subst hn
  exact ⟨h.hg, h.hB, fun i hi => hS i hi ▸ h.rows i hi, h.ne⟩
structure Wh (w : World) (B g : Nat) (ks : Nat → Option Nat) (m : List (Int × Int)) (now : Int) : Prop where
  good : Good m
  isw : ∃ vs, IsW w B g ks vs (spoke m) now m.length
theorem Wh.below (h : Wh w B g ks m now) {W : World} (hb : Below w.heap.size w W) : Wh W B g ks m now := by
  obtain ⟨hg, vs, hi⟩ := h; exact ⟨hg, vs, hi.below hb⟩
def WP (w : World) (B g : Nat) (ks : Nat → Option Nat) (r : Value) (m' : List (Int × Int)) (now' : Int) (e : Ending) (w' : World) : Prop :=
  e = .returned r ∧ ∃ ks', Wh w' B g ks' m' now' ∧ Turned w w' (own g ks) ∧ ∀ j, own g ks' j → own g ks j ∨ w.heap.size ≤ j
theorem WP.of_below (h : Wh w B g ks m now) {W : World} (hb : Below w.heap.size w W) (r : Value) : WP w B g ks r m now (.returned r) W :=
  ⟨rfl, ks, h.below hb, Turned.of_below hb, fun j hj => .inl hj⟩
theorem WP.trans {r2 : Value} {m2 : List (Int × Int)} {now2 : Int} {e2 : Ending} {w1 w2 : World} {ks1 : Nat → Option Nat} (hT : Turned w w1 (own g ks)) (ho : ∀ j, own g ks1 j → own g ks j ∨ w.heap.size ≤ j) (h2 : WP w1 B g ks1 r2 m2 now2 e2 w2) : WP w B g ks r2 m2 now2 e2 w2 := by
  obtain ⟨rfl, ks2, hW, hT2, ho2⟩ := h2
  refine ⟨rfl, ks2, hW, hT.trans hT2 ho, fun j hj => ?_⟩
  rcases ho2 j hj with h | h
  · exact ho j h
  · exact .inr (Nat.le_trans hT.size h)
theorem WP.below {r r2 : Value} {m1 : List (Int × Int)} {now1 : Int} {e1 : Ending} {w1 w2 : World} (h1 : WP w B g ks r m1 now1 e1 w1) (hb : Below w1.heap.size w1 w2) : WP w B g ks r2 m1 now1 (.returned r2) w2 := by
  obtain ⟨_, ks1, hW, hT, ho⟩ := h1
  exact WP.trans hT ho (WP.of_below (hW) hb r2)
theorem WP.after_below (h : Wh w B g ks m now) {W : World} (hb : Below w.heap.size w W) {r : Value} {m1 : List (Int × Int)} {now1 : Int} {e : Ending} {w1 : World} (h1 : WP W B g ks r m1 now1 e w1) : WP w B g ks r m1 now1 e w1 := by
  refine WP.trans (Turned.of_below hb) (fun j hj => .inl hj) h1
def has (m : List (Int × Int)) (id : Int) : Bool := m.any (fun x => x.1 == id)
theorem has_true {id : Int} : has m id = true ↔ ∃ x ∈ m, x.1 = id := by unfold has; simp
theorem has_false {id : Int} : has m id = false ↔ ∀ x ∈ m, x.1 ≠ id := by unfold has; simp
def okTick (tick : Int) : Bool := decide (0 ≤ tick ∧ tick ≤ 2199023255552)
def setE (m : List (Int × Int)) (id tick : Int) : Int := if okTick tick then (if has m id then 13 else if 1024 ≤ m.length then 15 else 0) else 11
def setM (m : List (Int × Int)) (id tick : Int) : List (Int × Int) := if setE m id tick = 0 then ins m (id, tick) else m
def moveE (m : List (Int × Int)) (id tick : Int) : Int := if okTick tick then (if has m id then 0 else 14) else 11
def moveM (m : List (Int × Int)) (id tick : Int) : List (Int × Int) := if moveE m id tick = 0 then ins (del m id) (id, tick) else m
def stopE (m : List (Int × Int)) (id : Int) : Int := if has m id then 0 else 14
theorem fnd_no {id : Int} (h : has m id = false) : fnd (spoke m) id = (0, 0, false) := by
  rcases fnd_cases (spoke m) id with ⟨i, k, hi, hk, h1, _⟩ | ⟨h1, _⟩
  · exact absurd h1 (has_false.1 h _ (mem_spoke.1 (List.getElem_mem hk)).1)
  · exact h1
theorem fnd_yes (hg : Good m) {id : Int} (h : has m id = true) : ∃ i k, i < 64 ∧ ∃ hk : k < (spoke m i).length, (spoke m i)[k].1 = id ∧ fnd (spoke m) id = ((i : Int), (k : Int), true) := by
  rcases fnd_cases (spoke m) id with ⟨i, k, hi, hk, h1, _, h2⟩ | ⟨_, h1⟩
  · exact ⟨i, k, hi, hk, h1, h2⟩
  · obtain ⟨x, hx, rfl⟩ := has_true.1 h
    obtain ⟨i, hi, e⟩ := spoke_cases x (hg.rng x hx).1
    exact absurd rfl (h1 i hi x (mem_spoke.2 ⟨hx, e⟩))
def tickOf (m : List (Int × Int)) (id : Int) : Int := match m.find? (fun x => x.1 == id) with | some x => x.2 | none => 0
theorem tickOf_mem (hg : Good m) {x : Int × Int} (hx : x ∈ m) : tickOf m x.1 = x.2 := by
  unfold tickOf
  cases h : m.find? (fun y => y.1 == x.1) with
  | none => rw [List.find?_eq_none] at h; exact absurd (by simp) (h x hx)
  | some y =>
    have := ids_uniq hg.ids (List.mem_of_find?_eq_some h) hx (by simpa using List.find?_some h)
    rw [this]
theorem tickOf_no {id : Int} (h : has m id = false) : tickOf m id = 0 := by
  unfold tickOf
  rw [List.find?_eq_none.2 (fun x hx => by simpa using has_false.1 h x hx)]
theorem get_wh (h : Wh w B g ks m now) (id : Int) :
    Calls Try.prog 13 #[.pointer (some ⟨g, 0, none⟩), .int .i64 id] w fun e w' => e = .returned (.tuple #[.int .i64 (tickOf m id), .bool (has m id)]) ∧ Below w.heap.size w w' := by
  obtain ⟨hg, vs, hi⟩ := h
  cases hh : has m id with
  | false => rw [tickOf_no hh]; exact get_no hi id (fnd_no hh)
  | true =>
    obtain ⟨i, k, hi64, hk, h1, h2⟩ := fnd_yes hg hh
    have := get_yes hi id hi64 hk h2
    rw [← tickOf_mem hg (mem_spoke.1 (List.getElem_mem hk)).1, h1] at this
    exact this
theorem length_spoke (m : List (Int × Int)) (i : Nat) : (spoke m i).length ≤ m.length := List.length_filter_le _ _
theorem take_wh (h : Wh w B g ks m now) {id : Int} {i k : Nat} (hi : i < 64) (hk : k < (spoke m i).length) (h1 : (spoke m i)[k].1 = id) :
    Calls Try.prog 29 #[.pointer (some ⟨g, 0, none⟩), .int .i64 i, .int .i64 k] w (WP w B g ks (.tuple #[]) (del m id) now) := by
  obtain ⟨hg, vs, hw⟩ := h
  have hl := length_spoke m i
  have hm := hg.len
  refine (take_c hw hi hk ⟨by omega, by omega⟩).mono ?_
  rintro e w' ⟨rfl, ks', vs', hw', hT, ho⟩
  refine ⟨rfl, ks', ⟨hg.filter _, vs', hw'.congr (fun j hj => (spoke_del hg hk h1 j).symm) ?_⟩, hT, ho⟩
  have := length_erase_ids hg.ids (mem_spoke.1 (List.getElem_mem hk)).1 h1
  unfold del; rw [this]; omega
theorem put_wh (h : Wh w B g ks m now) (t : Int × Int) (hid : has m t.1 = false) (ht : okTick t.2 = true) (hl : m.length < 1024) (hB : B ≤ w.heap.size) :
    Calls Try.prog 21 #[.pointer (some ⟨g, 0, none⟩), .agg #[.int .i64 t.1, .int .i64 t.2]] w (WP w B g ks (.tuple #[]) (ins m t) now) := by
  obtain ⟨hg, vs, hw⟩ := h
  obtain ⟨h0, h1⟩ : 0 ≤ t.2 ∧ t.2 ≤ 2199023255552 := by simpa [okTick] using ht
  obtain ⟨i, hi, hti⟩ := spoke_cases t h0
  obtain ⟨p, hp, ht1, ht2, hlo, hhi⟩ := split_at t (spoke m i) (hg.sorted.spoke i)
  have hls := length_spoke m i
  refine (put_c hw t hi hti h0 hp hlo hhi (by omega) (by omega) (by omega) hB).mono ?_
  rintro e w' ⟨rfl, ks', vs', hw', hT, ho⟩
  refine ⟨rfl, ks', ⟨good_ins hg (has_false.1 hid) h0 h1 hl, vs', hw'.congr (fun j hj => ?_) (by rw [length_ins hg.sorted]; simp)⟩, hT, ho⟩
  rw [spoke_ins hg.sorted, hti]
  by_cases e : j = i
  · subst e; rw [if_pos rfl, if_pos rfl, ht1, ht2]; rfl
  · rw [if_neg e, if_neg (by omega)]
set_option maxRecDepth 100000 in
theorem right_c (tick : Int) (w : World) : Calls Try.prog 20 #[.int .i64 tick] w fun e w' => e = .returned (.bool (okTick tick)) ∧ w = w' := by
  by_cases c2 : 0 ≤ tick
  · have c2b0 : decide (0 ≤ tick) = true := decide_eq_true c2
    have hb : okTick tick = decide (tick ≤ 2199023255552) := by unfold okTick; simp [c2]
    rw [hb]
    clear c2 hb
    go_enter Try.func20, Try.ntmps20
    go_wp2
    go_ret
    exact ⟨rfl, rfl⟩
  · have c2b0 : decide (0 ≤ tick) = false := decide_eq_false c2
    have hb : okTick tick = false := by unfold okTick; simp [c2]
    rw [hb]
    clear c2 hb
    go_enter Try.func20, Try.ntmps20
    go_wp2
    go_ret
    exact ⟨rfl, rfl⟩
end Go.Proofs.Ytppefdodhbdlpaa.H
namespace Go.Proofs.Ytppefdodhbdlpaa.H
open Go.RowKit Go.Shelf
set_option linter.unusedVariables false
set_option linter.unusedSimpArgs false
variable {w : World} {B g : Nat} {ks : Nat → Option Nat} {vs : Nat → Value} {S : Nat → List (Int × Int)} {now n : Int} {m : List (Int × Int)}
theorem WP.ret {r r2 : Value} {m' : List (Int × Int)} {now' : Int} {e : Ending} {w' : World} (h : WP w B g ks r m' now' e w') : WP w B g ks r2 m' now' (.returned r2) w' := ⟨rfl, h.2⟩
theorem Wh.cn (h : Wh w B g ks m now) : w.cell? ⟨g, 65, none⟩ = some (.int .i64 m.length) := by obtain ⟨_, vs, h⟩ := h; exact h.cn
theorem Wh.gl (h : Wh w B g ks m now) : g < w.heap.size := by obtain ⟨_, vs, h⟩ := h; exact (Array.getElem?_eq_some_iff.1 h.hg).1
set_option maxHeartbeats 1000000 in
set_option maxRecDepth 100000 in
theorem set_c (h : Wh w B g ks m now) (id tick : Int) (hB : B ≤ w.heap.size) :
    Calls Try.prog 9 #[.pointer (some ⟨g, 0, none⟩), .int .i64 id, .int .i64 tick] w (WP w B g ks (.int .i64 (setE m id tick)) (setM m id tick) now) := by
  have HG := Lib.hid (get_wh h id)
  have HR := Lib.hid (fun W => right_c tick W)
  have HW : Aside (Wh w B g ks m now) := h
  have hgl := h.gl
  clear h
  cases hok : okTick tick with
  | false =>
    have hE : setE m id tick = 11 := by unfold setE; rw [hok]; rfl
    have hM : setM m id tick = m := by unfold setM; rw [hE]; rfl
    rw [hE, hM]
    rw [hok] at HR
    clear hok hE hM
    generalize tickOf m id = tk at HG
    generalize has m id = hs at HG
    go_enter Try.func9, Try.ntmps9
    go_wp2_with fail
    have hX := HG.out; go_fit hX; clear hX; rintro e w1 ⟨rfl, hb1⟩
    have HB : Aside (Below w.heap.size w w1) := hb1; clear hb1
    go_wp2_with fail
    have hX := HR.out w1; go_fit hX; clear hX; rintro e w' ⟨rfl, rfl⟩
    go_wp2
    go_ret
    exact WP.of_below HW.out HB.out _
  | true =>
    rw [hok] at HR
    cases hhs : has m id with
    | true =>
      have hE : setE m id tick = 13 := by unfold setE; rw [hok, hhs]; rfl
      have hM : setM m id tick = m := by unfold setM; rw [hE]; rfl
      rw [hE, hM]
      rw [hhs] at HG
      clear hok hE hM hhs
      generalize tickOf m id = tk at HG
      go_enter Try.func9, Try.ntmps9
      go_wp2_with fail
      have hX := HG.out; go_fit hX; clear hX; rintro e w1 ⟨rfl, hb1⟩
      have HB : Aside (Below w.heap.size w w1) := hb1; clear hb1
      go_wp2_with fail
      have hX := HR.out w1; go_fit hX; clear hX; rintro e w' ⟨rfl, rfl⟩
      go_wp2
      go_ret
      exact WP.of_below HW.out HB.out _
    | false =>
      rw [hhs] at HG
      by_cases hl : 1024 ≤ m.length
      · have hE : setE m id tick = 15 := by unfold setE; rw [hok, hhs]; simp [hl]
        have hM : setM m id tick = m := by unfold setM; rw [hE]; rfl
        rw [hE, hM]
        clear hok hE hM hhs
        generalize tickOf m id = tk at HG
        obtain ⟨l, HL⟩ : ∃ l, Hid (m.length = l) := ⟨_, Lib.hid rfl⟩
        rw [HL.out] at hl
        have hlz : (1024 : Int) ≤ (l : Int) := by omega
        go_enter Try.func9, Try.ntmps9
        go_wp2_with fail
        have hX := HG.out; go_fit hX; clear hX; rintro e w1 ⟨rfl, hb1⟩
        have HB : Aside (Below w.heap.size w w1) := hb1
        have hcn := (hb1.cell (p := ⟨g, 65, none⟩) hgl).trans HW.out.cn
        rw [HL.out] at hcn
        clear hb1
        go_wp2_with fail
        have hX := HR.out w1; go_fit hX; clear hX; rintro e w' ⟨rfl, rfl⟩
        go_wp2
        go_ret
        exact WP.of_below HW.out HB.out _
      · have hE : setE m id tick = 0 := by unfold setE; rw [hok, hhs]; simp [hl]
        have hM : setM m id tick = ins m (id, tick) := by unfold setM; rw [hE]; rfl
        rw [hE, hM]
        have HPUT := Lib.hid (fun W (hb : Below w.heap.size w W) => put_wh (HW.out.below hb) (id, tick) hhs hok (by omega) (Nat.le_trans hB hb.size))
        clear hok hE hM hhs
        generalize tickOf m id = tk at HG
        obtain ⟨l, HL⟩ : ∃ l, Hid (m.length = l) := ⟨_, Lib.hid rfl⟩
        rw [HL.out] at hl
        have hlz : (l : Int) < 1024 := by omega
        clear hl
        go_enter Try.func9, Try.ntmps9
        go_wp2_with fail
        have hX := HG.out; go_fit hX; clear hX; rintro e w1 ⟨rfl, hb1⟩
        have HB : Aside (Below w.heap.size w w1) := hb1
        have hcn := (hb1.cell (p := ⟨g, 65, none⟩) hgl).trans HW.out.cn
        rw [HL.out] at hcn
        clear hb1
        go_wp2_with fail
        have hX := HR.out w1; go_fit hX; clear hX; rintro e w' ⟨rfl, rfl⟩
        go_wp2_with fail
        have hX := HPUT.out w1 HB.out; go_fit hX; clear hX; intro e w2 hP
        have HP := Lib.hid (WP.after_below HW.out HB.out hP)
        obtain ⟨rfl, _⟩ := hP
        go_wp2
        go_ret
        exact HP.out.ret
end Go.Proofs.Ytppefdodhbdlpaa.H
namespace Go.Proofs.Ytppefdodhbdlpaa.H
open Go.RowKit Go.Shelf
set_option linter.unusedVariables false
set_option linter.unusedSimpArgs false
variable {w : World} {B g : Nat} {ks : Nat → Option Nat} {vs : Nat → Value} {S : Nat → List (Int × Int)} {now n : Int} {m : List (Int × Int)}
theorem find_wh_no (h : Wh w B g ks m now) {id : Int} (hh : has m id = false) :
    Calls Try.prog 26 #[.pointer (some ⟨g, 0, none⟩), .int .i64 id] w fun e w' => e = .returned (.tuple #[.int .i64 0, .int .i64 0, .bool false]) ∧ Below w.heap.size w w' := by
  obtain ⟨hg, vs, hi⟩ := h
  have := find_c hi id
  rw [fnd_no hh] at this
  exact this
theorem find_wh_yes (h : Wh w B g ks m now) {id : Int} (hh : has m id = true) : ∃ i k : Nat, i < 64 ∧ ∃ hk : k < (spoke m i).length, (spoke m i)[k].1 = id ∧
    Calls Try.prog 26 #[.pointer (some ⟨g, 0, none⟩), .int .i64 id] w fun e w' => e = .returned (.tuple #[.int .i64 i, .int .i64 k, .bool true]) ∧ Below w.heap.size w w' := by
  obtain ⟨hg, vs, hi⟩ := h
  obtain ⟨i, k, hi64, hk, h1, h2⟩ := fnd_yes hg hh
  have := find_c hi id
  rw [h2] at this
  exact ⟨i, k, hi64, hk, h1, this⟩
theorem has_del (m : List (Int × Int)) (id : Int) : has (del m id) id = false := has_false.2 (fun x hx => by
  unfold del at hx; rw [List.mem_filter] at hx; simpa using hx.2)
theorem length_del {m : List (Int × Int)} (hg : Good m) {id : Int} (h : has m id = true) : (del m id).length = m.length - 1 := by
  obtain ⟨x, hx, rfl⟩ := has_true.1 h
  exact length_erase_ids hg.ids hx rfl
theorem has_pos {m : List (Int × Int)} {id : Int} (h : has m id = true) : 0 < m.length := by
  obtain ⟨x, hx, _⟩ := has_true.1 h
  exact List.length_pos_of_mem hx
set_option maxHeartbeats 1000000 in
set_option maxRecDepth 100000 in
theorem stop_c (h : Wh w B g ks m now) (id : Int) :
    Calls Try.prog 18 #[.pointer (some ⟨g, 0, none⟩), .int .i64 id] w (WP w B g ks (.int .i64 (stopE m id)) (del m id) now) := by
  have HW : Aside (Wh w B g ks m now) := h
  cases hh : has m id with
  | false =>
    have hE : stopE m id = 14 := by unfold stopE; rw [hh]; rfl
    have hM : del m id = m := by unfold del; rw [List.filter_eq_self]; intro x hx; simpa using has_false.1 hh x hx
    rw [hE, hM]
    have HF := Lib.hid (find_wh_no h hh)
    clear h hE hM hh
    go_enter Try.func18, Try.ntmps18
    go_wp2_with fail
    have hX := HF.out; go_fit hX; clear hX; rintro e w1 ⟨rfl, hb1⟩
    have HB : Aside (Below w.heap.size w w1) := hb1; clear hb1
    go_wp2
    go_ret
    exact WP.of_below HW.out HB.out _
  | true =>
    have hE : stopE m id = 0 := by unfold stopE; rw [hh]; rfl
    rw [hE]
    obtain ⟨i, k, hi, hk, h1, hf⟩ := find_wh_yes h hh
    have HF := Lib.hid hf
    have HT := Lib.hid (fun W (hb : Below w.heap.size w W) => take_wh (HW.out.below hb) hi hk h1)
    clear h hE hh hf h1 hk hi
    go_enter Try.func18, Try.ntmps18
    go_wp2_with fail
    have hX := HF.out; go_fit hX; clear hX; rintro e w1 ⟨rfl, hb1⟩
    have HB : Aside (Below w.heap.size w w1) := hb1; clear hb1
    go_wp2_with fail
    have hX := HT.out w1 HB.out; go_fit hX; clear hX; intro e w2 hP
    have HP := Lib.hid (WP.after_below HW.out HB.out hP)
    obtain ⟨rfl, _⟩ := hP
    go_wp2
    go_ret
    exact HP.out.ret
set_option maxHeartbeats 1000000 in
set_option maxRecDepth 100000 in
theorem move_c (h : Wh w B g ks m now) (id tick : Int) (hB : B ≤ w.heap.size) :
    Calls Try.prog 22 #[.pointer (some ⟨g, 0, none⟩), .int .i64 id, .int .i64 tick] w (WP w B g ks (.int .i64 (moveE m id tick)) (moveM m id tick) now) := by
  have HW : Aside (Wh w B g ks m now) := h
  have HR := Lib.hid (fun W => right_c tick W)
  cases hok : okTick tick with
  | false =>
    have hE : moveE m id tick = 11 := by unfold moveE; rw [hok]; rfl
    have hM : moveM m id tick = m := by unfold moveM; rw [hE]; rfl
    rw [hE, hM]
    rw [hok] at HR
    have HF : ∃ a b c, Hid (Calls Try.prog 26 #[.pointer (some ⟨g, 0, none⟩), .int .i64 id] w fun e w' => e = .returned (.tuple #[.int .i64 a, .int .i64 b, .bool c]) ∧ Below w.heap.size w w') := by
      cases hh : has m id with
      | false => exact ⟨_, _, _, Lib.hid (find_wh_no h hh)⟩
      | true => obtain ⟨i, k, _, _, _, hf⟩ := find_wh_yes h hh; exact ⟨_, _, _, Lib.hid hf⟩
    obtain ⟨a, b, c, HF⟩ := HF
    clear h hE hM hok
    go_enter Try.func22, Try.ntmps22
    go_wp2_with fail
    have hX := HF.out; go_fit hX; clear hX; rintro e w1 ⟨rfl, hb1⟩
    have HB : Aside (Below w.heap.size w w1) := hb1; clear hb1
    go_wp2_with fail
    have hX := HR.out w1; go_fit hX; clear hX; rintro e w' ⟨rfl, rfl⟩
    go_wp2
    go_ret
    exact WP.of_below HW.out HB.out _
  | true =>
    rw [hok] at HR
    cases hh : has m id with
    | false =>
      have hE : moveE m id tick = 14 := by unfold moveE; rw [hok, hh]; rfl
      have hM : moveM m id tick = m := by unfold moveM; rw [hE]; rfl
      rw [hE, hM]
      have HF := Lib.hid (find_wh_no h hh)
      clear h hE hM hok hh
      go_enter Try.func22, Try.ntmps22
      go_wp2_with fail
      have hX := HF.out; go_fit hX; clear hX; rintro e w1 ⟨rfl, hb1⟩
      have HB : Aside (Below w.heap.size w w1) := hb1; clear hb1
      go_wp2_with fail
      have hX := HR.out w1; go_fit hX; clear hX; rintro e w' ⟨rfl, rfl⟩
      go_wp2
      go_ret
      exact WP.of_below HW.out HB.out _
    | true =>
      have hE : moveE m id tick = 0 := by unfold moveE; rw [hok, hh]; rfl
      have hM : moveM m id tick = ins (del m id) (id, tick) := by unfold moveM; rw [hE]; rfl
      rw [hE, hM]
      obtain ⟨i, k, hi, hk, h1, hf⟩ := find_wh_yes h hh
      have HF := Lib.hid hf
      have HT := Lib.hid (fun W (hb : Below w.heap.size w W) => take_wh (HW.out.below hb) hi hk h1)
      have hdl : (del m id).length < 1024 := by have := length_del h.good hh; have := has_pos hh; have := h.good.len; omega
      have HPUT := Lib.hid (fun W ks1 (hw : Wh W B g ks1 (del m id) now) (hs : w.heap.size ≤ W.heap.size) => put_wh hw (id, tick) (has_del m id) hok hdl (Nat.le_trans hB hs))
      clear h hE hM hok hh hf h1 hk hi hdl
      go_enter Try.func22, Try.ntmps22
      go_wp2_with fail
      have hX := HF.out; go_fit hX; clear hX; rintro e w1 ⟨rfl, hb1⟩
      have HB : Aside (Below w.heap.size w w1) := hb1; clear hb1
      go_wp2_with fail
      have hX := HR.out w1; go_fit hX; clear hX; rintro e w' ⟨rfl, rfl⟩
      go_wp2_with fail
      have hX := HT.out w1 HB.out; go_fit hX; clear hX; intro e w2 hP
      have HP := Lib.hid (WP.after_below HW.out HB.out hP)
      obtain ⟨rfl, _⟩ := hP
      obtain ⟨_, ks1, hw1, hT1, ho1⟩ := HP.out
      have HX := Lib.hid (HPUT.out w2 ks1 hw1 hT1.size)
      have HTO := Lib.hid (And.intro hT1 ho1)
      clear hw1 hT1 ho1
      go_wp2_with fail
      have hX := HX.out; go_fit hX; clear hX; intro e w3 hP
      have HP3 := Lib.hid (WP.trans HTO.out.1 HTO.out.2 hP)
      obtain ⟨rfl, _⟩ := hP
      go_wp2
      go_ret
      exact HP3.out.ret
end Go.Proofs.Ytppefdodhbdlpaa.H
namespace Go.Proofs.Ytppefdodhbdlpaa.H
open Go.RowKit Go.Shelf
set_option linter.unusedVariables false
set_option linter.unusedSimpArgs false
variable {w : World} {B g : Nat} {ks : Nat → Option Nat} {vs : Nat → Value} {S : Nat → List (Int × Int)} {now n : Int} {m r : List (Int × Int)} {t : Int × Int}
theorem first_nil (h : Wh w B g ks [] now) : Calls Try.prog 28 #[.pointer (some ⟨g, 0, none⟩)] w fun e w' => e = .returned (.int .i64 (-1)) ∧ Below w.heap.size w w' := by
  obtain ⟨hg, vs, hi⟩ := h
  have := first_c hi
  rw [fst_nil] at this
  exact this
theorem first_cons (h : Wh w B g ks (t :: r) now) {i : Nat} (hi : i < 64) (ht : t.2 % 64 = (i : Int)) : Calls Try.prog 28 #[.pointer (some ⟨g, 0, none⟩)] w fun e w' => e = .returned (.int .i64 i) ∧ Below w.heap.size w w' := by
  obtain ⟨hg, vs, hw⟩ := h
  have := first_c hw
  rw [fst_cons hg hi ht] at this
  exact this
theorem Wh.head (h : Wh w B g ks (t :: r) now) {i : Nat} (hi : i < 64) (ht : t.2 % 64 = (i : Int)) : ∃ b l cap, 0 < l ∧ l ≤ 1048576 ∧ w.cell? ⟨g, i, none⟩ = some (.slice (some ⟨b, 0, none⟩) l cap) ∧ w.cell? ⟨b, 0, none⟩ = some (.int .i64 t.1) ∧ w.cell? ⟨b, 1, none⟩ = some (.int .i64 t.2) ∧ b < w.heap.size := by
  obtain ⟨hg, vs, hw⟩ := h
  have hsp : spoke (t :: r) i = t :: spoke r i := by rw [spoke_cons, if_pos ht]
  obtain ⟨b, cap, hb, e, c0, c1⟩ := (hw.rows i hi).head (by rw [hsp]; simp)
  have hl := (hw.rows i hi).own.2.2
  rw [hsp] at e c0 c1 hl
  exact ⟨b, _, cap, by simp, hl, (hw.c hi).trans (by rw [e]), c0, c1, hb⟩
theorem Wh.spoke_i (h : Wh w B g ks (t :: r) now) : ∃ i : Nat, i < 64 ∧ t.2 % 64 = (i : Int) := spoke_cases t (h.good.rng t (by simp)).1
set_option maxHeartbeats 1000000 in
set_option maxRecDepth 100000 in
theorem next_nil (h : Wh w B g ks [] now) : Calls Try.prog 25 #[.pointer (some ⟨g, 0, none⟩)] w fun e w' => e = .returned (.tuple #[.int .i64 0, .bool false]) ∧ Below w.heap.size w w' := by
  have HF := Lib.hid (first_nil h)
  clear h
  go_enter Try.func25, Try.ntmps25
  go_wp2_with fail
  have hX := HF.out; go_fit hX; clear hX; rintro e w1 ⟨rfl, hb1⟩
  have HB : Aside (Below w.heap.size w w1) := hb1; clear hb1
  go_wp2
  go_ret2
  exact ⟨rfl, HB.out⟩
set_option maxHeartbeats 1000000 in
set_option maxRecDepth 100000 in
theorem next_cons (h : Wh w B g ks (t :: r) now) : Calls Try.prog 25 #[.pointer (some ⟨g, 0, none⟩)] w fun e w' => e = .returned (.tuple #[.int .i64 t.2, .bool true]) ∧ Below w.heap.size w w' := by
  obtain ⟨i, hi, ht⟩ := h.spoke_i
  have HF := Lib.hid (first_cons h hi ht)
  have HW : Aside (Wh w B g ks (t :: r) now) := h
  obtain ⟨b, l, cap, hl0, hl1, c0, c1, c2, hb⟩ := h.head hi ht
  have HC := Lib.hid (And.intro c0 (And.intro c1 c2))
  have hia := fun W => run_indexAt64 g i hi W
  have hgl := h.gl
  clear c0 c1 c2 h ht
  obtain ⟨t1, t2⟩ := t
  dsimp only at HC ⊢
  have hlz : (0 : Int) < (l : Int) := by omega
  go_enter Try.func25, Try.ntmps25
  go_wp2_with fail
  have hX := HF.out; go_fit hX; clear hX; rintro e w1 ⟨rfl, hb1⟩
  have c0 := (hb1.cell (p := ⟨g, i, none⟩) hgl).trans HC.out.1
  have c2 := (hb1.cell (p := ⟨b, 1, none⟩) hb).trans HC.out.2.2
  have HB : Aside (Below w.heap.size w w1) := hb1; clear hb1
  go_wp2
  go_ret2
  exact ⟨rfl, HB.out⟩
end Go.Proofs.Ytppefdodhbdlpaa.H
