import Derived.Test.YtppefdodhbdlpaaHn
import Derived.Test.YtppefdodhbdlpaaHp
namespace Go.Proofs.Ytppefdodhbdlpaa.H
open Go.RowKit Go.Shelf Go.Proofs.Ytppefdodhbdlpaa.PWheelFull Go.Proofs.YtppefdodhbdlpaaW.PrintWords
set_option linter.unusedVariables false
set_option linter.unusedSimpArgs false
variable {w : World} {B g : Nat} {ks : Nat → Option Nat} {vs : Nat → Value} {S : Nat → List (Int × Int)} {now n : Int} {m : List (Int × Int)}
theorem IsW.congr {S' : Nat → List (Int × Int)} {n' : Int} (h : IsW w B g ks vs S now n) (hS : ∀ i, i < 64 → S i = S' i) (hn : n = n') : IsW w B g ks vs S' now n' := by
  subst hn
  exact ⟨h.hg, h.hB, fun i hi => hS i hi ▸ h.rows i hi, h.ne⟩
structure Wh (w : World) (B g : Nat) (ks : Nat → Option Nat) (m : List (Int × Int)) (now : Int) : Prop where
  good : Good m
  isw : ∃ vs, IsW w B g ks vs (spoke m) now m.length
theorem Wh.below (h : Wh w B g ks m now) {W : World} (hb : Below w.heap.size w W) : Wh W B g ks m now := by
  obtain ⟨hg, vs, hi⟩ := h; exact ⟨hg, vs, hi.below hb⟩
def WP (w : World) (B g : Nat) (ks : Nat → Option Nat) (r : Value) (m' : List (Int × Int)) (now' : Int) (e : Ending) (w' : World) : Prop :=
  e = .returned r ∧ ∃ ks', Wh w' B g ks' m' now' ∧ Turned w w' (own g ks) ∧ ∀ j, own g ks' j → own g ks j ∨ w.heap.size ≤ j
theorem WP.of_below (h : Wh w B g ks m now) {W : World} (hb : Below w.heap.size w W) (r : Value) : WP w B g ks r m now (.returned r) W :=
  ⟨rfl, ks, h.below hb, Turned.of_below hb, fun j hj => .inl hj⟩
theorem WP.trans {r2 : Value} {m2 : List (Int × Int)} {now2 : Int} {e2 : Ending} {w1 w2 : World} {ks1 : Nat → Option Nat} (hT : Turned w w1 (own g ks)) (ho : ∀ j, own g ks1 j → own g ks j ∨ w.heap.size ≤ j) (h2 : WP w1 B g ks1 r2 m2 now2 e2 w2) : WP w B g ks r2 m2 now2 e2 w2 := by
  obtain ⟨rfl, ks2, hW, hT2, ho2⟩ := h2
  refine ⟨rfl, ks2, hW, hT.trans hT2 ho, fun j hj => ?_⟩
  rcases ho2 j hj with h | h
  · exact ho j h
  · exact .inr (Nat.le_trans hT.size h)
theorem WP.below {r r2 : Value} {m1 : List (Int × Int)} {now1 : Int} {e1 : Ending} {w1 w2 : World} (h1 : WP w B g ks r m1 now1 e1 w1) (hb : Below w1.heap.size w1 w2) : WP w B g ks r2 m1 now1 (.returned r2) w2 := by
  obtain ⟨_, ks1, hW, hT, ho⟩ := h1
  exact WP.trans hT ho (WP.of_below (hW) hb r2)
theorem WP.after_below (h : Wh w B g ks m now) {W : World} (hb : Below w.heap.size w W) {r : Value} {m1 : List (Int × Int)} {now1 : Int} {e : Ending} {w1 : World} (h1 : WP W B g ks r m1 now1 e w1) : WP w B g ks r m1 now1 e w1 := by
  refine WP.trans (Turned.of_below hb) (fun j hj => .inl hj) h1
def has (m : List (Int × Int)) (id : Int) : Bool := m.any (fun x => x.1 == id)
theorem has_true {id : Int} : has m id = true ↔ ∃ x ∈ m, x.1 = id := by unfold has; simp
theorem has_false {id : Int} : has m id = false ↔ ∀ x ∈ m, x.1 ≠ id := by unfold has; simp
def okTick (tick : Int) : Bool := decide (0 ≤ tick ∧ tick ≤ 2199023255552)
def setE (m : List (Int × Int)) (id tick : Int) : Int := if okTick tick then (if has m id then 13 else if 1024 ≤ m.length then 15 else 0) else 11
def setM (m : List (Int × Int)) (id tick : Int) : List (Int × Int) := if setE m id tick = 0 then ins m (id, tick) else m
def moveE (m : List (Int × Int)) (id tick : Int) : Int := if okTick tick then (if has m id then 0 else 14) else 11
def moveM (m : List (Int × Int)) (id tick : Int) : List (Int × Int) := if moveE m id tick = 0 then ins (del m id) (id, tick) else m
def stopE (m : List (Int × Int)) (id : Int) : Int := if has m id then 0 else 14
theorem fnd_no {id : Int} (h : has m id = false) : fnd (spoke m) id = (0, 0, false) := by
  rcases fnd_cases (spoke m) id with ⟨i, k, hi, hk, h1, _⟩ | ⟨h1, _⟩
  · exact absurd h1 (has_false.1 h _ (mem_spoke.1 (List.getElem_mem hk)).1)
  · exact h1
theorem fnd_yes (hg : Good m) {id : Int} (h : has m id = true) : ∃ i k, i < 64 ∧ ∃ hk : k < (spoke m i).length, (spoke m i)[k].1 = id ∧ fnd (spoke m) id = ((i : Int), (k : Int), true) := by
  rcases fnd_cases (spoke m) id with ⟨i, k, hi, hk, h1, _, h2⟩ | ⟨_, h1⟩
  · exact ⟨i, k, hi, hk, h1, h2⟩
  · obtain ⟨x, hx, rfl⟩ := has_true.1 h
    obtain ⟨i, hi, e⟩ := spoke_cases x (hg.rng x hx).1
    exact absurd rfl (h1 i hi x (mem_spoke.2 ⟨hx, e⟩))
def tickOf (m : List (Int × Int)) (id : Int) : Int := match m.find? (fun x => x.1 == id) with | some x => x.2 | none => 0
theorem tickOf_mem (hg : Good m) {x : Int × Int} (hx : x ∈ m) : tickOf m x.1 = x.2 := by
  unfold tickOf
  cases h : m.find? (fun y => y.1 == x.1) with
  | none => rw [List.find?_eq_none] at h; exact absurd (by simp) (h x hx)
  | some y =>
    have := ids_uniq hg.ids (List.mem_of_find?_eq_some h) hx (by simpa using List.find?_some h)
    rw [this]
theorem tickOf_no {id : Int} (h : has m id = false) : tickOf m id = 0 := by
  unfold tickOf
  rw [List.find?_eq_none.2 (fun x hx => by simpa using has_false.1 h x hx)]
theorem get_wh (h : Wh w B g ks m now) (id : Int) :
    Calls Try.prog 13 #[.pointer (some ⟨g, 0, none⟩), .int .i64 id] w fun e w' => e = .returned (.tuple #[.int .i64 (tickOf m id), .bool (has m id)]) ∧ Below w.heap.size w w' := by
  obtain ⟨hg, vs, hi⟩ := h
  cases hh : has m id with
  | false => rw [tickOf_no hh]; exact get_no hi id (fnd_no hh)
  | true =>
    obtain ⟨i, k, hi64, hk, h1, h2⟩ := fnd_yes hg hh
    have := get_yes hi id hi64 hk h2
    rw [← tickOf_mem hg (mem_spoke.1 (List.getElem_mem hk)).1, h1] at this
    exact this
theorem length_spoke (m : List (Int × Int)) (i : Nat) : (spoke m i).length ≤ m.length := List.length_filter_le _ _
theorem take_wh (h : Wh w B g ks m now) {id : Int} {i k : Nat} (hi : i < 64) (hk : k < (spoke m i).length) (h1 : (spoke m i)[k].1 = id) :
    Calls Try.prog 29 #[.pointer (some ⟨g, 0, none⟩), .int .i64 i, .int .i64 k] w (WP w B g ks (.tuple #[]) (del m id) now) := by
  obtain ⟨hg, vs, hw⟩ := h
  have hl := length_spoke m i
  have hm := hg.len
  refine (take_c hw hi hk ⟨by omega, by omega⟩).mono ?_
  rintro e w' ⟨rfl, ks', vs', hw', hT, ho⟩
  refine ⟨rfl, ks', ⟨hg.filter _, vs', hw'.congr (fun j hj => (spoke_del hg hk h1 j).symm) ?_⟩, hT, ho⟩
  have := length_erase_ids hg.ids (mem_spoke.1 (List.getElem_mem hk)).1 h1
  unfold del; rw [this]; omega
theorem put_wh (h : Wh w B g ks m now) (t : Int × Int) (hid : has m t.1 = false) (ht : okTick t.2 = true) (hl : m.length < 1024) (hB : B ≤ w.heap.size) :
    Calls Try.prog 21 #[.pointer (some ⟨g, 0, none⟩), .agg #[.int .i64 t.1, .int .i64 t.2]] w (WP w B g ks (.tuple #[]) (ins m t) now) := by
  obtain ⟨hg, vs, hw⟩ := h
  obtain ⟨h0, h1⟩ : 0 ≤ t.2 ∧ t.2 ≤ 2199023255552 := by simpa [okTick] using ht
  obtain ⟨i, hi, hti⟩ := spoke_cases t h0
  obtain ⟨p, hp, ht1, ht2, hlo, hhi⟩ := split_at t (spoke m i) (hg.sorted.spoke i)
  have hls := length_spoke m i
  refine (put_c hw t hi hti h0 hp hlo hhi (by omega) (by omega) (by omega) hB).mono ?_
  rintro e w' ⟨rfl, ks', vs', hw', hT, ho⟩
  refine ⟨rfl, ks', ⟨good_ins hg (has_false.1 hid) h0 h1 hl, vs', hw'.congr (fun j hj => ?_) (by rw [length_ins hg.sorted]; simp)⟩, hT, ho⟩
  rw [spoke_ins hg.sorted, hti]
  by_cases e : j = i
  · subst e; rw [if_pos rfl, if_pos rfl, ht1, ht2]; rfl
  · rw [if_neg e, if_neg (by omega)]
set_option maxRecDepth 100000 in
theorem right_c (tick : Int) (w : World) : Calls Try.prog 20 #[.int .i64 tick] w fun e w' => e = .returned (.bool (okTick tick)) ∧ w = w' := by
  by_cases c2 : 0 ≤ tick
  · have c2b0 : decide (0 ≤ tick) = true := decide_eq_true c2
    have hb : okTick tick = decide (tick ≤ 2199023255552) := by unfold okTick; simp [c2]
    rw [hb]
    clear c2 hb
    go_enter Try.func20, Try.ntmps20
    go_wp2
    go_ret
    exact ⟨rfl, rfl⟩
  · have c2b0 : decide (0 ≤ tick) = false := decide_eq_false c2
    have hb : okTick tick = false := by unfold okTick; simp [c2]
    rw [hb]
    clear c2 hb
    go_enter Try.func20, Try.ntmps20
    go_wp2
    go_ret
    exact ⟨rfl, rfl⟩
end Go.Proofs.Ytppefdodhbdlpaa.H
