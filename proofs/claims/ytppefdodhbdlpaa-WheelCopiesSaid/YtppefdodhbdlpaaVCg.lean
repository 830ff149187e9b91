import Derived.Test.YtppefdodhbdlpaaVCf
import Derived.Test.YtppefdodhbdlpaaSort
namespace Go.Proofs.Ytppefdodhbdlpaa.H
open Go.RowKit Go.Shelf
set_option linter.unusedVariables false
set_option linter.unusedSimpArgs false
variable {w : World} {B g : Nat} {ks : Nat → Option Nat} {vs : Nat → Value} {S : Nat → List (Int × Int)} {now n : Int} {m r : List (Int × Int)} {t : Int × Int}
def encT (x : Int × Int) : List Value := [.int .i64 x.1, .int .i64 x.2]
theorem ltOf_lt (x y : Int × Int) : ltOf ordI x y = decide (x.2 < y.2 ∨ x.2 = y.2 ∧ x.1 < y.1) := by
  unfold ltOf; exact decide_eq_decide.2 (ordI_lt x y)
theorem swoT : Sort.SWO (ltOf ordI) where
  irrefl x := by rw [ltOf_lt]; simp
  trans x y z h1 h2 := by rw [ltOf_lt] at *; simp at *; omega
  ntrans x y z h1 h2 := by rw [ltOf_lt] at *; simp at *; omega
theorem ltOf_eq (x y : Int × Int) (h1 : ltOf ordI x y = false) (h2 : ltOf ordI y x = false) : x = y := by
  rw [ltOf_lt] at *
  simp at h1 h2
  exact Prod.ext (by omega) (by omega)
def srt (xs : List (Int × Int)) : List (Int × Int) := xs.mergeSort fun x y => !(ltOf ordI) y x
/-- a slice of two ints an element, read -/
structure MR (W : World) (v : Value) (l : List (Int × Int)) (b o : Nat) : Prop where
  val : ∃ A cap, v = .slice A l.length cap ∧ l.length ≤ cap ∧ cap ≤ maxLen ∧ (0 < l.length → A = some ⟨b, o, none⟩)
  cells : ∀ j (hj : j < l.length), W.cell? ⟨b, o + j * 2, none⟩ = some (.int .i64 l[j].1) ∧ W.cell? ⟨b, o + j * 2 + 1, none⟩ = some (.int .i64 l[j].2)
theorem sort_turned (w : World) (blk n : Nat) (d : Array (Int × Int)) (os : Array Obj) : Turned w (sortWorldK encT 2 w blk 0 n d os) (fun j => j = blk) := by
  unfold sortWorldK Sort.grow Sort.putRowK Sort.putRow Sort.mapBlock Sort.ahead
  refine ⟨rfl, rfl, rfl, by simp, fun k hk hn => ?_⟩
  simp only
  rw [Array.getElem?_append_left (by simpa using hk), Array.getElem?_modify, if_neg (Ne.symm hn)]
theorem sort_c {xs : List (Int × Int)} {b : Nat} {v : Value} (h : Row w B v xs (some b)) : Calls Try.prog 47 #[v, .func (.func 32) #[] #[]] w fun e w' => e = .returned (.tuple #[]) ∧ MR w' v (srt xs) b 0 ∧ Turned w w' (fun j => j = b) := by
  have hbl := h.lt
  have hat := fun {j : Nat} (hj : j < xs.length) => h.at_ hj
  obtain ⟨cap, cs, rfl, hB, hb, hs, hl, hm, hf, h1⟩ := h
  have eg : ∀ args w, (callFunc 32 args).run Try.prog w = .ok (.enter 32 args) w := enters_of Try.func32 (by kernel_rfl) rfl
  have hH : Sort.HoldsK encT 2 w b 0 xs.toArray := by
    intro j hj
    rw [Sort.size_flatK] at hj
    rw [Sort.get_flatK _ _ _ _ hj]
    refine ⟨?_, by simp only [World.frozen?, hb]; rfl⟩
    rw [Nat.zero_add]
    simp only [List.size_toArray] at hj
    rcases Nat.mod_two_eq_zero_or_one j with h0 | h0
    · obtain ⟨q, rfl⟩ : ∃ q, j = q * 2 := ⟨j / 2, by omega⟩
      have hq : q < xs.length := by omega
      have e : xs.toArray[q]! = xs[q] := by rw [getElem!_pos xs.toArray q (by simpa using hq)]; simp
      rw [h0, show q * 2 / 2 = q by omega, e]
      exact (hat hq).1
    · obtain ⟨q, rfl⟩ : ∃ q, j = q * 2 + 1 := ⟨j / 2, by omega⟩
      have hq : q < xs.length := by omega
      have e : xs.toArray[q]! = xs[q] := by rw [getElem!_pos xs.toArray q (by simpa using hq)]; simp
      rw [h0, show (q * 2 + 1) / 2 = q by omega, e]
      exact (hat hq).2
  have hcon := AnyQ.slices_SortFunc_total Try.sortT 2 Try.isAgg54 Try.sizeOf54 encT (fun _ => rfl) (fun x v hv => by simp [encT] at hv; rcases hv with rfl | rfl <;> rfl) ordI swoT 32 #[] b 0 cap xs.toArray w eg (fun _ _ _ _ x y => order_g x y _) hH hbl (by simp; omega) ltOf_eq
  change Calls Try.prog 47 _ _ _ at hcon
  simp only [List.size_toArray] at hcon
  refine hcon.mono ?_
  rintro e w' ⟨rfl, n, os, rfl⟩
  refine ⟨rfl, ?_, sort_turned _ _ _ _ _⟩
  have hls : (srt xs).length = xs.length := List.length_mergeSort _
  have hH2 := holdsK_sortWorldK_c encT 2 w b 0 xs.toArray (srt xs).toArray n os hH hbl (by simp [hls])
  refine ⟨⟨_, cap, by rw [hls], by rw [hls]; exact hl, hm, fun _ => rfl⟩, fun j hj => ?_⟩
  have h0 := (hH2.cell (i := j) (c := 0) (by simpa using hj) (by decide)).1
  have h1 := (hH2.cell (i := j) (c := 1) (by simpa using hj) (by decide)).1
  have e : (srt xs).toArray[j]! = (srt xs)[j] := by rw [getElem!_pos (srt xs).toArray j (by simpa using hj)]; simp
  rw [e] at h0 h1
  exact ⟨h0, h1⟩
theorem sort_none (v : Value) (w : World) (hv : v = .slice none 0 0) : Calls Try.prog 47 #[v, .func (.func 32) #[] #[]] w fun e w' => e = .returned (.tuple #[]) ∧ w' = w := by
  subst hv
  exact AnyF.slices_SortFunc_none Try.sortT none 0 (.func (.func 32) #[] #[]) w
def SortPost (w : World) (l : List (Int × Int)) (e : Ending) (w' : World) : Prop := ∃ v b, e = .returned v ∧ MR w' v l b 0 ∧ (0 < l.length → w.heap.size ≤ b) ∧ Below w.heap.size w w'
set_option maxHeartbeats 1000000 in
set_option maxRecDepth 100000 in
theorem sorted_c {xs : List (Int × Int)} {bx b cap : Nat} {A : Option Addr} (hlx : xs.length ≤ 1048576) (hs : Src xs bx A b cap w) :
    Calls Try.prog 36 #[.func (.func 48) #[] #[.pointer (some ⟨bx, 0, none⟩)], .func (.func 32) #[] #[]] w (SortPost w (srt xs)) := by
  have HC := Lib.hid (collect_c hlx hs)
  clear hs
  go_enter Try.func36, Try.ntmps36
  go_wp2_with fail
  have hX := HC.out; go_fit hX; clear hX; rintro e w1 ⟨v, k, rfl, hr, hb⟩
  have HR := Lib.hid hr
  have HB := Lib.hid hb
  obtain ⟨A1, c1, hv⟩ := hr.form
  cases k with
  | none =>
    obtain ⟨rfl, rfl⟩ := hr
    clear hb hv
    go_wp2_with fail
    have hX := sort_none _ w1 rfl; go_fit hX; clear hX; rintro e w2 ⟨rfl, rfl⟩
    go_wp2
    go_ret
    exact ⟨_, 0, rfl, ⟨⟨none, 0, by simp [srt], by simp [srt], Nat.zero_le _, fun h => by simp [srt] at h⟩, fun j hj => by simp [srt] at hj⟩, fun h => by simp [srt] at h, HB.out⟩
  | some bb =>
    have HS := Lib.hid (sort_c hr)
    have hB : Hid (w.heap.size ≤ bb) := Lib.hid (by obtain ⟨_, _, _, h, _⟩ := hr; exact h)
    clear hr hb
    subst hv
    go_wp2_with fail
    have hX := HS.out; go_fit hX; clear hX; rintro e w2 ⟨rfl, hm, hT⟩
    have HP : Aside (SortPost w (srt xs) (.returned (.slice A1 xs.length c1)) w2) := ⟨_, bb, rfl, hm, fun _ => hB.out, HB.out.trans (hT.below (fun j hj => by rw [hj]; exact hB.out) HB.out.size)⟩
    clear hm hT
    go_wp2
    go_ret
    exact HP.out
end Go.Proofs.Ytppefdodhbdlpaa.H
namespace Go.Proofs.Ytppefdodhbdlpaa.H
open Go.RowKit Go.Shelf
set_option linter.unusedVariables false
set_option linter.unusedSimpArgs false
variable {w : World} {B g : Nat} {ks : Nat → Option Nat} {vs : Nat → Value} {S : Nat → List (Int × Int)} {now n : Int} {m r : List (Int × Int)} {t : Int × Int}
theorem cat_perm_cons (t : Int × Int) (r : List (Int × Int)) : ∀ n : Nat, (cat (spoke (t :: r)) n).Perm (if 0 ≤ t.2 % 64 ∧ t.2 % 64 < n then t :: cat (spoke r) n else cat (spoke r) n)
  | 0 => by rw [if_neg (by omega)]; exact List.Perm.refl _
  | n + 1 => by
    have ih := cat_perm_cons t r n
    show (cat (spoke (t :: r)) n ++ spoke (t :: r) n).Perm _
    rw [spoke_cons]
    by_cases h : t.2 % 64 = (n : Int)
    · rw [if_neg (by omega)] at ih
      rw [if_pos h, if_pos (by omega)]
      exact (List.Perm.append_right _ ih).trans List.perm_middle
    · rw [if_neg h]
      by_cases h2 : 0 ≤ t.2 % 64 ∧ t.2 % 64 < n
      · rw [if_pos h2] at ih
        rw [if_pos (by omega)]
        exact List.Perm.append_right _ ih
      · rw [if_neg h2] at ih
        rw [if_neg (by omega)]
        exact List.Perm.append_right _ ih
theorem cat_nil : ∀ n : Nat, cat (spoke []) n = []
  | 0 => rfl
  | n + 1 => by show cat (spoke []) n ++ spoke [] n = []; rw [cat_nil n]; rfl
theorem cat_perm : ∀ m : List (Int × Int), (cat (spoke m) 64).Perm m
  | [] => by rw [cat_nil]
  | t :: r => by
    refine (cat_perm_cons t r 64).trans ?_
    rw [if_pos (by omega)]
    exact (cat_perm r).cons t
theorem srt_cat (h : Good m) : srt (cat (spoke m) 64) = m := by
  unfold srt
  have hs : List.Pairwise (fun a b => (!(ltOf ordI) b a) = true) ((cat (spoke m) 64).mergeSort fun x y => !(ltOf ordI) y x) := List.pairwise_mergeSort (fun a b c h1 h2 => by simp only [ltOf_lt] at *; simp at *; omega) (fun a b => by simp only [ltOf_lt]; simp; omega) _
  refine List.Perm.eq_of_pairwise (le := fun a b => (!(ltOf ordI) b a) = true) (fun a b _ _ h1 h2 => ?_) hs ?_ ((List.mergeSort_perm _ _).trans (cat_perm m))
  · exact ltOf_eq a b (by simpa using h2) (by simpa using h1)
  · refine List.Pairwise.imp (fun {a b} hab => ?_) h.sorted
    have := (ordI_lt a b).1 hab
    simp only [ltOf_lt]; simp; omega
theorem cat_length (m : List (Int × Int)) : (cat (spoke m) 64).length = m.length := (cat_perm m).length_eq
theorem concat_wh (h : Wh w B g ks m now) : Calls Try.prog 38 #[.slice (some ⟨g, 0, none⟩) 64 64] w (CatPost w (cat (spoke m) 64)) := by
  obtain ⟨hg, vs, hi⟩ := h
  have hl := hg.len
  by_cases h0 : (cat (spoke m) 64).length = 0
  · refine (concat_nil hi h0).mono ?_
    rintro e w' ⟨rfl, rfl⟩
    exact ⟨_, none, rfl, ⟨rfl, List.length_eq_zero_iff.1 h0⟩, Below.refl _ _⟩
  · exact concat_some hi (by omega) (by rw [cat_length]; omega)
theorem info58 : (Try.prog.info? 58).map (fun i => (i.zero, i.size, i.bytes)) = some (some (.agg #[.int .i64 0, .int .i64 0]), 2, 16) := by kernel_rfl
/-- values over a row -/
theorem Row.srcOf {v : Value} {xs : List (Int × Int)} {k : Option Nat} (h : Row w B v xs k) : ∃ A cap b, v = .slice A xs.length cap ∧ Src xs w.heap.size A b cap (w.alloc (.cells #[v] 47)) := by
  have hb : Below w.heap.size w (w.alloc (.cells #[v] 47)) := (Below.refl _ _).alloc (Nat.le_refl _) _
  have hbox : (w.alloc (.cells #[v] 47)).cell? ⟨w.heap.size, 0, none⟩ = some v := (cell_of_row _ _ 0 _ _ _ (heap_alloc_new w _)).trans rfl
  cases k with
  | none =>
    obtain ⟨rfl, rfl⟩ := h
    exact ⟨none, 0, 0, rfl, hbox, fun j hj => by simp at hj⟩
  | some b =>
    have hlt := h.lt
    have hat := fun {j : Nat} (hj : j < xs.length) => h.at_ hj
    obtain ⟨cap, cs, rfl, _⟩ := h
    exact ⟨_, cap, b, rfl, hbox, fun j hj => ⟨rfl, (hb.cell (p := ⟨b, _, none⟩) hlt).trans (hat hj).1, (hb.cell (p := ⟨b, _, none⟩) hlt).trans (hat hj).2⟩⟩
theorem MR.below {W : World} {v : Value} {l : List (Int × Int)} {b o : Nat} (h : MR w v l b o) (hb : Below w.heap.size w W) : MR W v l b o :=
  ⟨h.val, fun j hj => ⟨(hb.cell (p := ⟨b, _, none⟩) (block_lt_of_cell (h.cells j hj).1)).trans (h.cells j hj).1, (hb.cell (p := ⟨b, o + j * 2 + 1, none⟩) (block_lt_of_cell (h.cells j hj).2)).trans (h.cells j hj).2⟩⟩
theorem MR.of_own {W : World} {v : Value} {l : List (Int × Int)} {base : Nat} (h : W.ownsRow base 58 2 v l.length (flat l)) : ∃ b, MR W v l b 0 ∧ (0 < l.length → base ≤ b) := by
  rcases h.2 with ⟨rfl, h0⟩ | ⟨b, cap, cs, rfl, hb, hh, hl, hm, hsz, hf⟩
  · exact ⟨0, ⟨⟨none, 0, by rw [h0], by omega, Nat.zero_le _, fun h => by omega⟩, fun j hj => by omega⟩, fun h => by omega⟩
  · refine ⟨b, ⟨⟨_, cap, rfl, hl, hm, fun _ => rfl⟩, fun j hj => ?_⟩, fun _ => hb⟩
    have e := flat_at l j hj
    rw [← hf] at e
    have g (i : Nat) (hi : i < l.length * 2) : W.cell? ⟨b, i, none⟩ = (cs.toList.take (l.length * 2))[i]? := by
      rw [cell_of_row W b i _ _ _ hh, List.getElem?_take, if_pos hi]; simp
    rw [Nat.zero_add]
    exact ⟨(g _ (by omega)).trans e.1, (g _ (by omega)).trans e.2⟩
def AllPost (w : World) (m : List (Int × Int)) (e : Ending) (w' : World) : Prop := ∃ v b, e = .returned v ∧ MR w' v m b 0 ∧ (0 < m.length → w.heap.size ≤ b) ∧ Below w.heap.size w w'
set_option maxHeartbeats 2000000 in
set_option maxRecDepth 100000 in
theorem all_c (h : Wh w B g ks m now) : Calls Try.prog 24 #[.pointer (some ⟨g, 0, none⟩)] w (AllPost w m) := by
  have HC := Lib.hid (concat_wh h)
  have hlen : m.length ≤ 1024 := h.good.len
  have HSR := Lib.hid (srt_cat h.good)
  have HCL := Lib.hid (cat_length m)
  clear h
  go_enter Try.func24, Try.ntmps24
  go_wp2_with fail
  have hX := HC.out; go_fit hX; clear hX; rintro e w1 ⟨v1, k1, rfl, hr1, hb1⟩
  obtain ⟨A1, c1, b1, hv1, hs1⟩ := hr1.srcOf
  have HB1 := Lib.hid hb1
  have HS1 := Lib.hid hs1
  clear hb1 hs1 hr1
  subst hv1
  have HV := Lib.hid (values_c w1 (.slice A1 (cat (spoke m) 64).length c1) rfl A1 _ c1 rfl)
  go_wp2_with fail
  have hX := HV.out; go_fit hX; clear hX; rintro e w2 ⟨rfl, rfl⟩
  have HSO := Lib.hid (sorted_c (by rw [HCL.out]; omega) HS1.out)
  rw [HSR.out] at HSO
  go_wp2_with fail
  have hX := HSO.out; go_fit hX; clear hX; rintro e w3 ⟨v3, b3, rfl, hm3, hb3, hbel3⟩
  obtain ⟨A3, c3, hv3, hlc3, hcm3, hA3⟩ := hm3.val
  have HM3 := Lib.hid hm3
  have HB3 : Aside (Below w.heap.size w w3) := HB1.out.trans ((((Below.refl _ w1).alloc (Nat.le_refl _) _).trans (hbel3.mono (by simp))).mono HB1.out.size)
  clear hm3 hb3 hbel3
  subst hv3
  obtain ⟨l, HL⟩ : ∃ l, Hid (m.length = l) := ⟨_, Lib.hid rfl⟩
  rw [HL.out] at hlc3 hlen hA3 ⊢
  have HA3 := Lib.hid hA3
  clear hA3 hcm3 hlc3
  go_wp2
  go_loopg [3, 5, 14] l (fun gg s3 _ s14 wr => ∃ i : Nat, i ≤ l ∧ l - i ≤ gg ∧ s14 = .int .i64 i ∧ Aside (wr.ownsRow w3.heap.size 58 2 s3 i (flat (m.take i))) ∧ Aside (Below w3.heap.size w3 wr))
  case atStart => exact ⟨0, by omega, by omega, rfl, ⟨rfl, .inl ⟨rfl, rfl⟩⟩, Below.refl _ _⟩
  case round =>
    obtain ⟨i, hi, hgg, rfl, ho, hb⟩ := hrel
    by_cases hlt : i < l
    · have hltz : (i : Int) < (l : Int) := by omega
      have hx : i < m.length := by rw [HL.out]; exact hlt
      obtain rfl := HA3.out (by omega)
      have hcs := HM3.out.cells i hx
      rw [Nat.zero_add] at hcs
      have c0 := (hb.out.cell (p := ⟨b3, i * 2, none⟩) (block_lt_of_cell hcs.1)).trans hcs.1
      have c1' := (hb.out.cell (p := ⟨b3, i * 2 + 1, none⟩) (block_lt_of_cell hcs.2)).trans hcs.2
      clear hcs
      have HX := Lib.hid (List.getElem?_eq_getElem hx)
      obtain ⟨x, hxx⟩ : ∃ x, m[i] = x := ⟨_, rfl⟩
      rw [hxx] at c0 c1' HX
      clear hxx
      obtain ⟨x1, x2⟩ := x
      dsimp only at c0 c1'
      obtain ⟨i0, hi0, hz0, hzs, hzb⟩ := info_parts info58
      have HINF := Lib.hid (And.intro hi0 (And.intro hz0 (And.intro hzs hzb)))
      clear hi0 hz0 hzs hzb
      go_wp2_with ((with_reducible refine at_dst (N := 25) rfl ?_); refine Mark.mk_ ?_)
      refine Mark.un ?_
      obtain ⟨hi0, hz0, hzs, hzb⟩ := HINF.out
      have hbs := hb.out.size
      refine wpList_append_own _ rfl _ _ 30 rfl w3.heap.size 58 i0 _ 2 16 Try.underlying30 hi0 hz0 hzs hzb rfl (by decide) _ i (flat (m.take i)) rfl ((ho.out.alloc _).alloc _) ⟨wr.heap.size + 1, 0, none⟩ 1 1 (flat [(x1, x2)]) rfl rfl ?c1 (oneCell_flat _) (by unfold maxLen; omega) (by omega) (by simp; omega) ?_
      case c1 =>
        have hn := heap_alloc_new (wr.alloc (.cells #[.int .i64 x1, .int .i64 x2] 54)) (.cells #[.int .i64 x1, .int .i64 x2] 58)
        rw [World.size_alloc] at hn
        exact news2 (x := (x1, x2)) ((cell_of_row _ _ 0 _ _ _ hn).trans rfl) ((cell_of_row _ _ 1 _ _ _ hn).trans rfl)
      intro v' w5 hown hg _
      have HO5 : Aside (w5.ownsRow w3.heap.size 58 2 v' (i + 1) (flat (m.take (i + 1)))) := (show w5.ownsRow w3.heap.size 58 2 v' (i + 1) (flat (m.take (i + 1))) by rw [List.take_add_one, HX.out, flat_append]; exact hown)
      have hba : Below w3.heap.size w3 ((wr.alloc (.cells #[.int .i64 x1, .int .i64 x2] 54)).alloc (.cells #[.int .i64 x1, .int .i64 x2] 58)) := (hb.out.alloc hbs _).alloc (by simp; omega) _
      have HB5 : Aside (Below w3.heap.size w3 w5) := hba.grown hg hba.size (fun j e => (own_cells ho.out e).1)
      clear hown hg hba hi0 hz0 hzs hzb c0 c1'
      go_wp2
      go_roundg (l - (i + 1))
      case measure => omega
      case rel => exact ⟨i + 1, by omega, by omega, by go_num, HO5.out, HB5.out⟩
    · have hltz : ¬ (i : Int) < (l : Int) := by omega
      have hil : i = l := by omega
      have HP : Aside (AllPost w m (.returned u3) wr) := by
        have h2 := ho.out
        rw [hil, ← HL.out, List.take_length] at h2
        obtain ⟨b, hm, hb2⟩ := MR.of_own h2
        exact ⟨u3, b, rfl, hm, fun h => Nat.le_trans HB3.out.size (hb2 h), HB3.out.trans (hb.out.mono HB3.out.size)⟩
      clear hil
      go_wp2
      go_ret
      exact HP.out
end Go.Proofs.Ytppefdodhbdlpaa.H
