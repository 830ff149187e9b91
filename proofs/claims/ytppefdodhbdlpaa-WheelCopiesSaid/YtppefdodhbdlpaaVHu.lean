import Derived.Test.YtppefdodhbdlpaaVHq
import Derived.RangeFuncNested
import Derived.RangeFuncBound
import Derived.RangeFuncCalls
import Derived.RangeFuncLeaves
import Derived.Shelf.Abstract
import Derived.Shelf.RegionOpen
import Derived.OwnWalkIn
import Derived.TacticsInMore
import Derived.LoopNIn
import Derived.LoopIn
import Derived.BigRegion
import Derived.StillTailTactics
namespace Go.Proofs.Ytppefdodhbdlpaa.H
open Go.RowKit Go.Shelf
set_option linter.unusedVariables false
set_option linter.unusedSimpArgs false
attribute [local go_sem] Oper.semAt_some
variable {w : World} {B g : Nat} {ks : Nat → Option Nat} {vs : Nat → Value} {S : Nat → List (Int × Int)} {now n : Int} {m r : List (Int × Int)} {t : Int × Int}
abbrev Ks := Nat → Option Nat
def nowAt (now tick : Int) : Int := max now (min tick 2199023255552)
def TurnPost (J Jx : Ks → List (Int × Int) → World → Prop) (B g : Nat) (nw : Int) (e : Ending) (w' : World) : Prop :=
  e = .returned (.tuple #[]) ∧ ((∃ ks m, Wh w' B g ks m nw ∧ J ks m w' ∧ (m = [] ∨ ∃ t r, m = t :: r ∧ nw < t.2)) ∨ (∃ ks m, Jx ks m w'))
theorem Wh.gblock (h : Wh w B g ks m now) : ∃ cs, w.heap[g]? = some (.cells cs 50 (0, 0)) := by obtain ⟨_, vs, h⟩ := h; exact ⟨_, h.hg⟩
theorem Wh.cnow (h : Wh w B g ks m now) : w.cell? ⟨g, 64, none⟩ = some (.int .i64 now) := by obtain ⟨_, vs, h⟩ := h; exact h.cnow
theorem wcells_set_now (vs : Nat → Value) (now n m : Int) : (wcells vs now n).set 64 (.int .i64 m) = wcells vs m n := by
  unfold wcells
  rw [List.set_append_right _ _ (by simp)]
  simp
theorem Wh.own_lt (h : Wh w B g ks m now) {j : Nat} (hj : own g ks j) : j < w.heap.size := by
  have hgl := h.gl
  obtain ⟨_, vs, h⟩ := h
  rcases hj with rfl | ⟨i, hi, e⟩
  · exact hgl
  · have hr := h.rows i hi; rw [e] at hr; exact hr.lt
theorem Wh.set_now (h : Wh w B g ks m now) (nw : Int) : Wh (w.setCell ⟨g, 64, none⟩ (.int .i64 nw)) B g ks m nw := by
  obtain ⟨hg, vs, hi⟩ := h
  refine ⟨hg, vs, ⟨by rw [setCell_heap hi.hg, List.setIfInBounds_toArray, wcells_set_now], hi.hB, fun i h64 => (hi.rows i h64).turned (setCell_turned hi.hg) (fun b hb => hi.ne_g h64 hb), hi.ne⟩⟩
theorem Turned.drew {w w' : World} {T : Nat → Prop} (h : Turned w w' T) : Turned w w'.drew T := ⟨h.os, h.tape, h.output, h.size, h.block⟩
theorem Wh.drew (h : Wh w B g ks m now) : Wh w.drew B g ks m now := h.below ⟨rfl, rfl, rfl, Nat.le_refl _, fun _ _ => rfl⟩
theorem Wh.turned_now (h : Wh w B g ks m now) (nw : Int) : Turned w (w.setCell ⟨g, 64, none⟩ (.int .i64 nw)) (own g ks) := by
  obtain ⟨hg, vs, hi⟩ := h
  exact (setCell_turned hi.hg).mono (fun k hk => .inl hk)
theorem del_head (h : Good (t :: r)) : del (t :: r) t.1 = r := by
  unfold del
  rw [List.filter_cons_of_neg (by simp), List.filter_eq_self]
  intro x hx
  have := (List.pairwise_cons.1 h.ids).1 x hx
  simpa using Ne.symm this
theorem take0_wh (h : Wh w B g ks (t :: r) now) {i : Nat} (hi : i < 64) (ht : t.2 % 64 = (i : Int)) :
    Calls Try.prog 29 #[.pointer (some ⟨g, 0, none⟩), .int .i64 i, .int .i64 0] w (WP w B g ks (.tuple #[]) r now) := by
  have hsp : spoke (t :: r) i = t :: spoke r i := by rw [spoke_cons, if_pos ht]
  have := take_wh h (id := t.1) (k := 0) hi (by rw [hsp]; simp) (by simp only [hsp, List.getElem_cons_zero])
  rw [del_head h.good] at this
  exact this
def firstOf : List (Int × Int) → Int
  | [] => -1
  | t :: _ => t.2 % 64
theorem first_wh (h : Wh w B g ks m now) : Calls Try.prog 28 #[.pointer (some ⟨g, 0, none⟩)] w fun e w' => e = .returned (.int .i64 (firstOf m)) ∧ Below w.heap.size w w' := by
  cases m with
  | nil => exact first_nil h
  | cons t r =>
    obtain ⟨i, hi, ht⟩ := h.spoke_i
    have := first_cons h hi ht
    rw [← ht] at this
    exact this
set_option maxHeartbeats 1000000 in
set_option maxRecDepth 100000 in
theorem turn1_c {J Jx : Ks → List (Int × Int) → World → Prop} (l bw bt k : Nat) (tick : Int)
    (hbox : ∀ ks m W, J ks m W → W.cell? ⟨bw, 0, none⟩ = some (.pointer (some ⟨g, 0, none⟩)) ∧ W.cell? ⟨bt, 0, none⟩ = some (.int .i64 tick))
    (hJ : ∀ ks m W ks' W', J ks m W → Turned W W' (own g ks) → (∀ j, own g ks' j → own g ks j ∨ W.heap.size ≤ j) → J ks' m W')
    (hY : ∀ ks t r W, J ks (t :: r) W → Wh W B g ks r (nowAt now tick) → t.2 ≤ nowAt now tick → YieldAt Fence.wide k Try.prog l #[.int .i64 t.1, .int .i64 t.2] W fun e W' =>
      (e = .returned (.bool true) ∧ J ks r W' ∧ Wh W' B g ks r (nowAt now tick)) ∨ (e = .returned (.bool false) ∧ Jx ks r W'))
    (h : Wh w B g ks m now) (hj : J ks m w) :
    Calls Try.prog 27 #[.func (.yield l) #[] #[], .pointer (some ⟨bw, 0, none⟩), .pointer (some ⟨bt, 0, none⟩)] w (TurnPost J Jx B g (nowAt now tick)) := by
  have HJ := Lib.hid hJ
  have HY := Lib.hid hY
  have HBOX := Lib.hid hbox
  have HW : Aside (Wh w B g ks m now) := h
  have Hj := Lib.hid hj
  obtain ⟨cb, ct⟩ := hbox _ _ _ hj
  obtain ⟨hgood, vs, hi⟩ := h
  have cn := hi.cnow
  have hfg : w.frozen? ⟨g, 64, none⟩ = false := by simp only [World.frozen?, hi.hg]; rfl
  clear hJ hY hbox hj hi
  go_enter Try.func27, Try.ntmps27
  go_wp2
  go_still_tail 10, (by kernel_rfl)
  change wpList _ _ _ _ _ w.drew
  go_wp2_with fail
  obtain ⟨w1, HW1⟩ : ∃ w1, (w.setCell ⟨g, 64, none⟩ (.int .i64 (max now (min tick 2199023255552)))).drew = w1 := ⟨_, rfl⟩
  have hw1 : Wh w1 B g ks m (nowAt now tick) := by rw [← HW1]; exact (HW.out.set_now _).drew
  have hj1 : J ks m w1 := HJ.out ks m w ks w1 Hj.out (by rw [← HW1]; exact (HW.out.turned_now _).drew) (fun j hj => .inl hj)
  rw [HW1]
  clear HW1 cb ct cn hfg HW Hj
  have hX := first_wh hw1; go_fit hX; clear hX; rintro e w2 ⟨rfl, hb2⟩
  have hw2 : Aside (Wh w2 B g ks m (nowAt now tick)) := hw1.below hb2
  have hj2 := Lib.hid (HJ.out ks m w1 ks w2 hj1 (Turned.of_below hb2) (fun j hj => .inl hj))
  clear hw1 hj1 hb2 hgood
  go_wp2
  go_loopg [4] m.length (fun gg s4 wr => ∃ ks m, m.length ≤ gg ∧ s4 = .int .i64 (firstOf m) ∧ Aside (Wh wr B g ks m (nowAt now tick)) ∧ Aside (J ks m wr))
  case atStart => exact ⟨ks, m, Nat.le_refl _, rfl, hw2, hj2.out⟩
  case round =>
    clear hw2 hj2
    obtain ⟨ks1, m1, hgg, rfl, hW, hj⟩ := hrel
    cases m1 with
    | nil =>
      obtain ⟨x, hx⟩ : ∃ x : Int, x = firstOf [] := ⟨_, rfl⟩
      rw [← hx]
      have hx0 : decide ((0 : Int) ≤ x) = false := by rw [hx]; rfl
      clear hx
      go_wp2
      go_quiet (fail)
      go_wp2
      go_end0
      exact ⟨rfl, .inl ⟨ks1, [], hW.out.below ⟨rfl, rfl, rfl, Nat.le_refl _, fun _ _ => rfl⟩, HJ.out _ _ _ _ _ hj.out (Turned.of_below ⟨rfl, rfl, rfl, Nat.le_refl _, fun _ _ => rfl⟩) (fun j hj => .inl hj), .inl rfl⟩⟩
    | cons t r =>
      obtain ⟨i, hi, ht⟩ := hW.out.spoke_i
      have hgl := hW.out.gl
      obtain ⟨t1, t2⟩ := t
      rw [show firstOf ((t1, t2) :: r) = (i : Int) from ht]
      obtain ⟨b, l1, cap, hl0, hl1, c0, c1, c2, hb⟩ := hW.out.head hi ht
      dsimp only at c1 c2
      obtain ⟨cb, ct⟩ := HBOX.out _ _ _ hj.out
      have cn := hW.out.cnow
      have hia := fun W => run_indexAt64 g i hi W
      have hlz : (0 : Int) < (l1 : Int) := by omega
      have hgd : decide ((0 : Int) ≤ (i : Int)) = true := by simp
      by_cases hle : t2 ≤ nowAt now tick
      · have hled : decide (t2 ≤ nowAt now tick) = true := decide_eq_true hle
        go_wp2
        go_quiet (fail)
        have hBq : Below wr.heap.size wr (wr.drewN nq) := ⟨rfl, rfl, rfl, Nat.le_refl _, fun _ _ => rfl⟩
        obtain ⟨wq, HWQ⟩ : ∃ wq, wr.drewN nq = wq := ⟨_, rfl⟩
        rw [HWQ] at hBq ⊢
        clear HWQ hled hgd
        have hWq : Aside (Wh wq B g ks1 ((t1, t2) :: r) (nowAt now tick)) := hW.out.below hBq
        have hjq := Lib.hid (HJ.out _ _ _ ks1 wq hj.out (Turned.of_below hBq) (fun j hj => .inl hj))
        clear hW hj cb ct c0 c1 c2 cn hb hgl hBq
        have hgl := hWq.out.gl
        obtain ⟨b, l1, cap, hl0, hl1, c0, c1, c2, hb⟩ := hWq.out.head hi ht
        dsimp only at c1 c2
        obtain ⟨cb, ct⟩ := HBOX.out _ _ _ hjq.out
        have hlz : (0 : Int) < (l1 : Int) := by omega
        have hbwl : bw < wq.heap.size := block_lt_of_cell cb
        have HT := Lib.hid (take0_wh (hWq.out.below ((Below.refl _ _).alloc (Nat.le_refl _) (.cells #[.int .i64 t1, .int .i64 t2] 54))) hi ht)
        have hJa := Lib.hid (HJ.out _ _ _ ks1 (wq.alloc (.cells #[.int .i64 t1, .int .i64 t2] 54)) hjq.out (Turned.of_below ((Below.refl _ _).alloc (Nat.le_refl _) _)) (fun j hj => .inl hj))
        have hq0 : (wq.alloc (.cells #[.int .i64 t1, .int .i64 t2] 54)).heap[wq.heap.size]? = some (.cells #[.int .i64 t1, .int .i64 t2] 54 (0, 0)) := heap_alloc_new wq _
        have HQ0 := Lib.hid hq0
        clear hq0
        go_wp2_with fail
        have hX := HT.out; go_fit hX; clear hX; rintro e w3 ⟨rfl, ks3, hW3, hT3, ho3⟩
        have hq3 : w3.heap[wq.heap.size]? = some (.cells #[.int .i64 t1, .int .i64 t2] 54 (0, 0)) := (hT3.block _ (by simp) (fun h => by have := hWq.out.own_lt h; omega)).trans HQ0.out
        have hJ3 := Lib.hid (HJ.out _ _ _ ks3 w3 hJa.out hT3 ho3)
        have hd0 : w3.cell? ⟨wq.heap.size, 0, none⟩ = some (.int .i64 t1) := (cell_of_row _ _ 0 _ _ _ hq3).trans rfl
        have hd1 : w3.cell? ⟨wq.heap.size, 1, none⟩ = some (.int .i64 t2) := (cell_of_row _ _ 1 _ _ _ hq3).trans rfl
        have HW3 : Aside (Wh w3 B g ks3 r (nowAt now tick)) := hW3
        obtain ⟨fn, tmps, assign, body, hy, hR⟩ := HY.out ks3 (t1, t2) r w3 hJ3.out hW3 hle
        clear hW3 hT3 ho3 hq3 cb ct c0 c1 c2 hb
        dsimp only at hy
        have HR := Lib.hid hR
        clear hR
        go_upto_region 6 with (fail)
        refine (wpIn_wide (n := k + 1)).1 ?_
        gi_wp2
        refine HR.out.mono ?_
        rintro e w5 (⟨rfl, hJ5, hW5⟩ | ⟨rfl, hX5⟩)
        · obtain ⟨cb5, _⟩ := HBOX.out _ _ _ hJ5
          have HJ5 := Lib.hid hJ5
          have HW5 : Aside (Wh w5 B g ks3 r (nowAt now tick)) := hW5
          clear hJ5 hW5 hy hd0 hd1 hia
          gi_wp2
          go_wp2_with fail
          have hX := first_wh HW5.out; go_fit hX; clear hX; rintro e w6 ⟨rfl, hb6⟩
          have HW6 : Aside (Wh w6 B g ks3 r (nowAt now tick)) := HW5.out.below hb6
          have HJ6 := Lib.hid (HJ.out _ _ _ ks3 w6 HJ5.out (Turned.of_below hb6) (fun j hj => .inl hj))
          clear hb6 cb5
          go_wp2
          go_roundg r.length
          case measure => simp at hgg; omega
          case rel => exact ⟨ks3, r, Nat.le_refl _, rfl, HW6.out, HJ6.out⟩
        · have HX5 := Lib.hid hX5
          clear hX5 hy hd0 hd1 hia
          gi_wp2
          go_wp2
          refine bodyPost_ret (results_none rfl _ _ _) rfl ?_
          exact ⟨rfl, .inr ⟨_, _, HX5.out⟩⟩
      · have hled : decide (t2 ≤ nowAt now tick) = false := decide_eq_false hle
        go_wp2
        go_quiet (fail)
        go_wp2
        go_end0
        exact ⟨rfl, .inl ⟨ks1, _, hW.out.below ⟨rfl, rfl, rfl, Nat.le_refl _, fun _ _ => rfl⟩, HJ.out _ _ _ _ _ hj.out (Turned.of_below ⟨rfl, rfl, rfl, Nat.le_refl _, fun _ _ => rfl⟩) (fun j hj => .inl hj), .inr ⟨_, r, rfl, by dsimp only; omega⟩⟩⟩
end Go.Proofs.Ytppefdodhbdlpaa.H
