import Derived.Test.YtppefdodhbdlpaaHm
namespace Go.Proofs.Ytppefdodhbdlpaa.H
open Go.RowKit Go.Shelf
set_option linter.unusedVariables false
set_option linter.unusedSimpArgs false
variable {w : World} {B g : Nat} {ks : Nat → Option Nat} {vs : Nat → Value} {S : Nat → List (Int × Int)} {now n : Int}
theorem insert_c {v : Value} {xs : List (Int × Int)} {k : Option Nat} (h : Row w B v xs k) (x : Int × Int) (p q : Nat) (hp : p ≤ xs.length)
    (hq : w.heap[q]? = some (.cells #[.int .i64 x.1, .int .i64 x.2] 54 (0, 0))) (hqk : k ≠ some q) (hlen : xs.length < 1048576) (hB : B ≤ w.heap.size) :
    Calls Try.prog 33 #[v, .int .i64 p, .slice (some ⟨q, 0, none⟩) 1 1] w (InsPost w B (xs.take p ++ x :: xs.drop p) k) := by
  by_cases he : p = xs.length
  · subst he
    rw [List.take_length, List.drop_length]
    exact insert_end h x q 1 ((cell_of_row _ _ 0 _ _ _ hq).trans rfl) ((cell_of_row _ _ 1 _ _ _ hq).trans rfl) hlen hB
  · have hpl : p < xs.length := by omega
    obtain ⟨b, cap, rfl, rfl⟩ := h.some_ hpl
    have hqb : q ≠ b := fun e => hqk (by rw [e])
    by_cases hr : xs.length < cap
    · exact insert_room h hpl x q hq hqb hr hlen
    · have : cap = xs.length := by
        obtain ⟨cap2, cs, h1, h2, h3, h4, h5, _⟩ := h
        simp at h1; omega
      subst this
      exact insert_grow h hpl x q hq hqb hlen hB
theorem below_drew' {m : Nat} {w W : World} (h : Below m w W) : Below m w W.drew := ⟨h.os, h.tape, h.output, h.size, h.block⟩
theorem ins_put (h : IsW w B g ks vs S now n) {i : Nat} (hi : i < 64) {w3 w' : World} (hb : Below w.heap.size w w3) {ys : List (Int × Int)} {e : Ending} (hP : InsPost w3 B ys (ks i) e w') (n' : Int) :
    ∃ A cap, e = .returned (.slice A ys.length cap) ∧ w3.grownBy w' (ks i) ∧
      WPost w B g ks (fun j => if j = i then ys else S j) now n' (.returned (.tuple #[])) ((w'.setCell ⟨g, i, none⟩ (.slice A ys.length cap)).setCell ⟨g, 65, none⟩ (.int .i64 n')) := by
  obtain ⟨v', k', rfl, hR, hk, hG⟩ := hP
  obtain ⟨A, cap, rfl⟩ := hR.form
  refine ⟨A, cap, rfl, hG, h.put_row hi ?_ hR ?_ n'⟩
  · exact (Turned.of_below hb).trans (Turned.of_grown hG) (fun k hk => .inl hk)
  · intro b hb'
    rcases hk with hk | hk
    · exact .inl (by rw [← hk, hb'])
    · rw [hk] at hb'
      cases hb'
      exact .inr hb.size
set_option maxHeartbeats 1000000 in
set_option maxRecDepth 100000 in
theorem put_c (h : IsW w B g ks vs S now n) (t : Int × Int) {i p : Nat} (hi : i < 64) (hti : t.2 % 64 = i) (ht0 : 0 ≤ t.2) (hp : p ≤ (S i).length) (hlo : ∀ j (hj : j < (S i).length), j < p → ordI (S i)[j] t < 0) (hhi : ∀ j (hj : j < (S i).length), p ≤ j → ¬ ordI (S i)[j] t < 0)
    (hlen : (S i).length < 1048576) (hn0 : 0 ≤ n) (hn1 : n < 1048576) (hB : B ≤ w.heap.size) :
    Calls Try.prog 21 #[.pointer (some ⟨g, 0, none⟩), .agg #[.int .i64 t.1, .int .i64 t.2]] w (WPost w B g ks (fun j => if j = i then (S i).take p ++ t :: (S i).drop p else S j) now (n + 1)) := by
  have HI : Aside (IsW w B g ks vs S now n) := h
  obtain ⟨A, cap, e2⟩ := (h.rows i hi).form
  have hgl : g < w.heap.size := (Array.getElem?_eq_some_iff.1 h.hg).1
  have hSE : Hid (∀ W, Below w.heap.size w W → Calls Try.prog 31 #[.slice A (S i).length cap, .agg #[.int .i64 t.1, .int .i64 t.2], .func (.func 32) #[] #[]] W fun e w' => (∃ f : Bool, e = .returned (.tuple #[.int .i64 p, .bool f])) ∧ Below W.heap.size W w') :=
    Lib.hid (fun W hW => by rw [← e2]; exact search_c ((h.rows i hi).below hW) t p hp hlo hhi)
  have hIN : Hid (∀ W, Below w.heap.size w W → ∀ q, W.heap[q]? = some (.cells #[.int .i64 t.1, .int .i64 t.2] 54 (0, 0)) → w.heap.size ≤ q → Calls Try.prog 33 #[.slice A (S i).length cap, .int .i64 p, .slice (some ⟨q, 0, none⟩) 1 1] W (InsPost W B ((S i).take p ++ t :: (S i).drop p) (ks i))) :=
    Lib.hid (fun W hW q hq hwq => by
      rw [← e2]
      refine insert_c ((h.rows i hi).below hW) t p q hp hq (fun e => ?_) hlen (Nat.le_trans hB hW.size)
      have hr := h.rows i hi
      rw [e] at hr
      have := hr.lt
      omega)
  have hc1 : w.cell? ⟨g, i, none⟩ = some (.slice A (S i).length cap) := (h.c hi).trans (by rw [e2])
  have hia := fun W => run_indexAt64 g i hi W
  have hfg : w.frozen? ⟨g, i, none⟩ = false := by simp only [World.frozen?, h.hg]; rfl
  have hcn := h.cn
  have hfn : w.frozen? ⟨g, 65, none⟩ = false := by simp only [World.frozen?, h.hg]; rfl
  have hne65 : ¬ i = 65 := by omega
  have hbg : Hid (∀ b, ks i = some b → b ≠ g) := Lib.hid (fun b e => h.ne_g hi e)
  clear h e2 hp hlo hhi
  obtain ⟨m, HM⟩ : ∃ m, Hid ((S i).length = m) := ⟨_, Lib.hid rfl⟩
  rw [HM.out] at hc1 hSE hIN hlen
  obtain ⟨t1, t2⟩ := t
  dsimp only at hti ht0 hSE hIN ⊢
  have htm : t2.tmod 64 = (i : Int) := by rw [Int.tmod_eq_emod_of_nonneg ht0, hti]
  clear hti
  go_enter Try.func21, Try.ntmps21
  go_wp2
  go_quiet (fail)
  go_wp2
  have hB0 : Below w.heap.size w ((w.alloc (.cells #[.int .i64 t1, .int .i64 t2] 54)).drewN nq) := below_drewN ((Below.refl _ _).alloc (Nat.le_refl _) _) _
  have d0 : ((w.alloc (.cells #[.int .i64 t1, .int .i64 t2] 54)).drewN nq).cell? ⟨w.heap.size, 0, none⟩ = some (.int .i64 t1) := (cell_of_row _ _ 0 _ _ _ (heap_alloc_new w _)).trans rfl
  have d1 : ((w.alloc (.cells #[.int .i64 t1, .int .i64 t2] 54)).drewN nq).cell? ⟨w.heap.size, 1, none⟩ = some (.int .i64 t2) := (cell_of_row _ _ 1 _ _ _ (heap_alloc_new w _)).trans rfl
  have hqs : w.heap.size < ((w.alloc (.cells #[.int .i64 t1, .int .i64 t2] 54)).drewN nq).heap.size := by simp [World.drewN]
  obtain ⟨W0, HW0⟩ : ∃ W0, (w.alloc (.cells #[.int .i64 t1, .int .i64 t2] 54)).drewN nq = W0 := ⟨_, rfl⟩
  rw [HW0] at hB0 d0 d1 hqs ⊢
  clear HW0
  have hgl0 : g < W0.heap.size := by omega
  have c1 := (hB0.cell (p := ⟨g, i, none⟩) hgl).trans hc1
  have f1 := (hB0.frozen (p := ⟨g, i, none⟩) hgl).trans hfg
  have c2 := (hB0.cell (p := ⟨g, 65, none⟩) hgl).trans hcn
  have f2 := (hB0.frozen (p := ⟨g, 65, none⟩) hgl).trans hfn
  have HB0 : Aside (Below w.heap.size w W0) := hB0
  have HX := Lib.hid (hSE.out W0.drew ⟨hB0.os, hB0.tape, hB0.output, hB0.size, hB0.block⟩)
  obtain ⟨q, HQ⟩ : ∃ q, Hid (w.heap.size = q) := ⟨_, Lib.hid rfl⟩
  rw [HQ.out] at d0 d1 hqs ⊢
  clear hc1 hfg hcn hfn hB0 hia htm
  go_region_held3 (fun W => W.cell? ⟨q, 0, none⟩ = some (.int .i64 t1) ∧ W.cell? ⟨q, 1, none⟩ = some (.int .i64 t2) ∧ W.cell? ⟨g, i, none⟩ = some (.slice A m cap) ∧ Below W0.heap.size W0 W)
    (first
      | exact ⟨d0, d1, c1, ⟨rfl, rfl, rfl, Nat.le_refl _, fun _ _ => rfl⟩⟩
      | (obtain ⟨s0, s1, s2, s3⟩ := ‹_ ∧ _ ∧ _ ∧ _›
         exact ⟨(hb'.cell (p := ⟨q, _, none⟩) (Nat.lt_of_lt_of_le hqs s3.size)).trans s0, (hb'.cell (p := ⟨q, _, none⟩) (Nat.lt_of_lt_of_le hqs s3.size)).trans s1, (hb'.cell (p := ⟨g, _, none⟩) (Nat.lt_of_lt_of_le hgl0 s3.size)).trans s2, s3.trans (hb'.mono s3.size)⟩)
      | go_keep)
    ((have hX := HX.out; go_fit hX; clear hX; rintro e w' hD; obtain ⟨⟨f, hE⟩, hb'⟩ := hD; subst hE))
  rename_i hH
  have d0' := hH.1
  have d1' := hH.2.1
  have c1' := hH.2.2.1
  have hBw : Below W0.heap.size W0 w' := hH.2.2.2
  clear hH hb' d0 d1 c1
  have c2' := (hBw.cell (p := ⟨g, 65, none⟩) hgl0).trans c2
  have f1' := (hBw.frozen (p := ⟨g, i, none⟩) hgl0).trans f1
  have f2' := (hBw.frozen (p := ⟨g, 65, none⟩) hgl0).trans f2
  have hqs' : q < w'.heap.size := Nat.lt_of_lt_of_le hqs hBw.size
  have hgl' : g < w'.heap.size := Nat.lt_of_lt_of_le hgl0 hBw.size
  have HB' : Aside (Below w.heap.size w w') := HB0.out.trans (hBw.mono HB0.out.size)
  clear hBw c2 f1 f2
  go_wp2
  have HB3 : Aside (Below w.heap.size w (w'.alloc (.cells #[.int .i64 t1, .int .i64 t2] 54)).drew) :=
    below_drew' (HB'.out.trans (((Below.refl _ _).alloc (Nat.le_refl _) _ : Below w'.heap.size w' (w'.alloc (.cells #[.int .i64 t1, .int .i64 t2] 54))).mono HB'.out.size))
  obtain ⟨yl, HYL⟩ : ∃ yl, Hid (((S i).take p ++ (t1, t2) :: (S i).drop p).length = yl) := ⟨_, Lib.hid rfl⟩
  have HX3 := Lib.hid (hIN.out _ HB3.out w'.heap.size (heap_alloc_new w' _) HB'.out.size)
  have hgl3 : g < (w'.alloc (.cells #[.int .i64 t1, .int .i64 t2] 54)).drew.heap.size := Nat.lt_of_lt_of_le hgl HB3.out.size
  have hgk : some g ≠ ks i := fun e => hbg.out g e.symm rfl
  have c13 := (HB3.out.cell (p := ⟨g, 65, none⟩) hgl).trans HI.out.cn
  have f13 : (w'.alloc (.cells #[.int .i64 t1, .int .i64 t2] 54)).drew.frozen? ⟨g, i, none⟩ = false := (HB3.out.frozen (p := ⟨g, i, none⟩) hgl).trans (by simp only [World.frozen?, HI.out.hg]; rfl)
  have f23 : (w'.alloc (.cells #[.int .i64 t1, .int .i64 t2] 54)).drew.frozen? ⟨g, 65, none⟩ = false := (HB3.out.frozen (p := ⟨g, 65, none⟩) hgl).trans (by simp only [World.frozen?, HI.out.hg]; rfl)
  have c03 : (w'.alloc (.cells #[.int .i64 t1, .int .i64 t2] 54)).drew.cell? ⟨g, i, none⟩ = some (vs i) := (HB3.out.cell (p := ⟨g, i, none⟩) hgl).trans (HI.out.c hi)
  have C13 := Lib.hid c13
  have F13 := Lib.hid f13
  have F23 := Lib.hid f23
  have C03 := Lib.hid c03
  clear c13 f13 f23 c03
  go_region_with ((have hX := HX3.out; go_fit hX; clear hX; rintro e w4 hP; obtain ⟨A', cap', hE, hG, hW⟩ := ins_put HI.out hi HB3.out hP (n + 1); rw [HYL.out] at hE hW; subst hE; have c4 := (hG.cell_far ⟨g, i, none⟩ hgl3 hgk).trans C03.out; have f4 := (hG.frozen_far ⟨g, i, none⟩ hgl3 hgk).trans F13.out; have c5 := (hG.cell_far ⟨g, 65, none⟩ hgl3 hgk).trans C13.out; have f5 := (hG.frozen_far ⟨g, 65, none⟩ hgl3 hgk).trans F23.out; have HW := Lib.hid hW; clear hW hG hP))
  all_goals
    clear d0' d1' c1' c2' f1' f2' c4 f4
    go_wp2
    go_end0
    exact HW.out
end Go.Proofs.Ytppefdodhbdlpaa.H
