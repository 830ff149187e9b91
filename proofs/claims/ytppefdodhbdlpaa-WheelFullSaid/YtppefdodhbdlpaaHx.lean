import Derived.Test.YtppefdodhbdlpaaHv
namespace Go.Proofs.Ytppefdodhbdlpaa.H
open Go.RowKit Go.Shelf
set_option linter.unusedVariables false
set_option linter.unusedSimpArgs false
attribute [local go_sem] Oper.semAt_some
variable {w : World} {B g : Nat} {ks : Nat → Option Nat} {vs : Nat → Value} {S : Nat → List (Int × Int)} {now n : Int} {m r : List (Int × Int)} {t : Int × Int}
def noks : Ks := fun _ => none
theorem wh_new (w : World) : Wh (w.alloc (.cells (wcells (fun _ => .slice none 0 0) 0 0).toArray 50)) w.heap.size w.heap.size noks [] 0 :=
  ⟨good_nil, _, ⟨heap_alloc_new w _, Nat.le_refl _, fun i hi => ⟨rfl, rfl⟩, fun i j b _ _ _ h => by cases h⟩⟩
theorem own_noks {g j : Nat} (h : own g noks j) : j = g := by
  rcases h with h | ⟨i, _, h⟩
  · exact h
  · cases h
structure At (w W : World) (B g : Nat) (ks : Ks) (m : List (Int × Int)) (now : Int) : Prop where
  wh : Wh W B g ks m now
  below : Below w.heap.size w W
  own : ∀ j, own g ks j → w.heap.size ≤ j
theorem At.step {W W' : World} {v : Value} {m' : List (Int × Int)} {now' : Int} {e : Ending} (h : At w W B g ks m now) (hP : WP W B g ks v m' now' e W') : e = .returned v ∧ ∃ ks', At w W' B g ks' m' now' := by
  obtain ⟨rfl, ks', hw, hT, ho⟩ := hP
  refine ⟨rfl, ks', hw, h.below.trans (hT.below h.own h.below.size), fun j hj => ?_⟩
  rcases ho j hj with h2 | h2
  · exact h.own j h2
  · exact Nat.le_trans h.below.size h2
theorem At.blw {W W' : World} (h : At w W B g ks m now) (hb : Below W.heap.size W W') : At w W' B g ks m now :=
  ⟨h.wh.below hb, h.below.trans (hb.mono h.below.size), h.own⟩
theorem new_at (w : World) : Calls Try.prog 7 #[] w fun e w' => e = .returned (.pointer (some ⟨w.heap.size, 0, none⟩)) ∧ At w w' w.heap.size w.heap.size noks [] 0 := by
  refine (new_c w).mono ?_
  rintro e w' ⟨rfl, rfl⟩
  exact ⟨rfl, wh_new w, (Below.refl _ _).alloc (Nat.le_refl _) _, fun j hj => by rw [own_noks hj]; exact Nat.le_refl _⟩
theorem a1 : setE [] 1 5 = 0 ∧ setM [] 1 5 = [(1, 5)] := by decide
theorem a2 : setE [(1, 5)] 2 3 = 0 ∧ setM [(1, 5)] 2 3 = [(2, 3), (1, 5)] := by decide
theorem a3 : setE [(2, 3), (1, 5)] 2 9 = 13 ∧ setM [(2, 3), (1, 5)] 2 9 = [(2, 3), (1, 5)] := by decide
theorem a4 : stopE [(2, 3), (1, 5)] 7 = 14 ∧ del [(2, 3), (1, 5)] 7 = [(2, 3), (1, 5)] := by decide
theorem set_at {W : World} (h : At w W B g ks m now) (id tick : Int) (hB : B ≤ w.heap.size) {E : Int} {M : List (Int × Int)} (hE : setE m id tick = E ∧ setM m id tick = M) :
    Calls Try.prog 9 #[.pointer (some ⟨g, 0, none⟩), .int .i64 id, .int .i64 tick] W fun e w' => e = .returned (.int .i64 E) ∧ ∃ ks', At w w' B g ks' M now := by
  have := set_c h.wh id tick (Nat.le_trans hB h.below.size)
  rw [hE.1, hE.2] at this
  exact this.mono (fun e w' hP => h.step hP)
theorem stop_at {W : World} (h : At w W B g ks m now) (id : Int) {E : Int} {M : List (Int × Int)} (hE : stopE m id = E ∧ del m id = M) :
    Calls Try.prog 18 #[.pointer (some ⟨g, 0, none⟩), .int .i64 id] W fun e w' => e = .returned (.int .i64 E) ∧ ∃ ks', At w w' B g ks' M now := by
  have := stop_c h.wh id
  rw [hE.1, hE.2] at this
  exact this.mono (fun e w' hP => h.step hP)
structure AI (w : World) (g z : Nat) (ks : Ks) (m : List (Int × Int)) (W : World) : Prop where
  c0 : ∃ last, W.heap[z]? = some (.cells #[.int .i64 last] 3 (0, 0)) ∧ (m = [(2, 3), (1, 5)] ∧ last = 0 ∨ m = [(1, 5)] ∧ last = 2)
  c1 : W.heap[z + 1]? = some (.cells #[.pointer (some ⟨g, 0, none⟩)] 22 (0, 0))
  c2 : W.heap[z + 1 + 1]? = some (.cells #[.int .i64 4] 3 (0, 0))
  no : ∀ j, own g ks j → j < z ∨ z + 3 ≤ j
  low : ∀ j, own g ks j → w.heap.size ≤ j
  below : Below w.heap.size w W
theorem AI.next {w : World} {g z : Nat} {ks ks' : Ks} {m : List (Int × Int)} {W W' : World} (h : AI w g z ks m W) (hz : w.heap.size ≤ z) (hs : z + 3 ≤ W.heap.size) (hT : Turned W W' (fun j => own g ks j ∨ z + 3 ≤ j)) (ho : ∀ j, own g ks' j → own g ks j ∨ W.heap.size ≤ j) : AI w g z ks' m W' := by
  obtain ⟨⟨last, c0, hl⟩, c1, c2, no, low, hb⟩ := h
  have key : ∀ j, z ≤ j → j < z + 3 → ¬ (own g ks j ∨ z + 3 ≤ j) := fun j h1 h2 h3 => by
    rcases h3 with h3 | h3
    · have := no j h3; omega
    · omega
  refine ⟨⟨last, (hT.block _ (by omega) (key _ (by omega) (by omega))).trans c0, hl⟩, (hT.block _ (by omega) (key _ (by omega) (by omega))).trans c1, (hT.block _ (by omega) (key _ (by omega) (by omega))).trans c2, fun j hj => ?_, fun j hj => ?_, hb.trans (hT.below (fun j hj => ?_) hb.size)⟩
  · rcases ho j hj with h | h
    · exact no j h
    · exact .inr (by omega)
  · rcases ho j hj with h | h
    · exact low j h
    · omega
  · rcases hj with h | h
    · exact low j h
    · omega
theorem len_wh (h : Wh w B g ks m now) : Calls Try.prog 10 #[.pointer (some ⟨g, 0, none⟩)] w fun e w' => e = .returned (.int .i64 m.length) ∧ w = w' := by
  obtain ⟨_, vs, h⟩ := h; exact len_c h
theorem now_wh (h : Wh w B g ks m now) : Calls Try.prog 19 #[.pointer (some ⟨g, 0, none⟩)] w fun e w' => e = .returned (.int .i64 now) ∧ w = w' := by
  obtain ⟨_, vs, h⟩ := h; exact now_c h
theorem putObj_below {w W : World} (hb : Below w.heap.size w W) {D : Nat} (hD : w.heap.size ≤ D) (o : Obj) : Below w.heap.size w (W.putObj D o) :=
  hb.trans ((putObj_turned W D o).below (fun j hj => by rw [hj]; exact hD) hb.size)
theorem AI.wrote {w : World} {g z : Nat} {ks : Ks} {r : List (Int × Int)} {W : World} (h : AI w g z ks ((2, 3) :: r) W) (hz : w.heap.size ≤ z) : Turned W (W.setCell ⟨z, 0, none⟩ (.int .i64 2)) (fun j => j = z) ∧ AI w g z ks r (W.setCell ⟨z, 0, none⟩ (.int .i64 2)) := by
  obtain ⟨⟨last, c0, hl⟩, c1, c2, no, low, hb⟩ := h
  have hT := setCell_turned (j := 0) (u := .int .i64 2) c0
  have hr : r = [(1, 5)] := by
    rcases hl with ⟨hm, _⟩ | ⟨hm, _⟩
    · simpa using hm
    · simp at hm
  subst hr
  refine ⟨hT, ⟨2, setCell_heap c0, .inr ⟨rfl, rfl⟩⟩, (hT.block _ (Array.getElem?_eq_some_iff.1 c1).1 (by omega)).trans c1, (hT.block _ (Array.getElem?_eq_some_iff.1 c2).1 (by omega)).trans c2, no, low, hb.trans (hT.below (fun j hj => by omega) hb.size)⟩
set_option maxHeartbeats 1000000 in
set_option maxRecDepth 100000 in
theorem awake_c (w : World) : Calls Try.prog 8 #[] w fun e w' => e = .returned (.bool true) ∧ Below w.heap.size w w' := by
  refine (callsIn_wide (n := 3)).1 ?_
  refine callsIn_of_wp_marks Try.func8 rfl trivial ?_ rfl
  simp only [Try.ntmps8, List.size_toArray, List.length_nil, List.length_cons, Nat.reduceAdd, Nat.reduceSub, Array.replicate_succ, Array.replicate_zero, List.push_toArray, List.append_toArray, List.nil_append, List.cons_append]
  refine wpIn_wide.2 ?_
  go_wp2_with fail
  have hX := new_at w; go_fit hX; clear hX; rintro e w1 ⟨rfl, h1⟩
  obtain ⟨g, HG⟩ : ∃ g, Hid (w.heap.size = g) := ⟨_, Lib.hid rfl⟩
  have HB : Hid (g ≤ w.heap.size) := Lib.hid (by rw [← HG.out]; exact Nat.le_refl _)
  rw [HG.out] at h1 ⊢
  have H1 := Lib.hid h1
  clear h1
  go_wp2_with fail
  have hX := set_at H1.out 1 5 HB.out a1; go_fit hX; clear hX; rintro e w2 ⟨rfl, ks2, h2⟩
  have H2 := Lib.hid h2
  clear h2
  go_wp2_with fail
  have hX := set_at H2.out 2 3 HB.out a2; go_fit hX; clear hX; rintro e w3 ⟨rfl, ks3, h3⟩
  have H3 := Lib.hid h3
  clear h3
  go_wp2_with fail
  have hX := set_at H3.out 2 9 HB.out a3; go_fit hX; clear hX; rintro e w4 ⟨rfl, ks4, h4⟩
  have H4 := Lib.hid h4
  clear h4
  go_wp2_with fail
  have hX := stop_at H4.out 7 a4; go_fit hX; clear hX; rintro e w5 ⟨rfl, ks5, h5⟩
  have H5 := Lib.hid h5
  clear h5
  go_wp2_with fail
  have hX := turn_c (w5.alloc (.cells #[.int .i64 0] 3)) g 4; go_fit hX; clear hX; rintro e w6 ⟨rfl, rfl⟩
  go_wp2_with fail
  have hBa : Below w5.heap.size w5 (((w5.alloc (.cells #[.int .i64 0] 3)).alloc (.cells #[.pointer (some ⟨g, 0, none⟩)] 22)).alloc (.cells #[.int .i64 4] 3)) := (((Below.refl _ _).alloc (Nat.le_refl _) _).alloc (by simp) _).alloc (by simp; omega) _
  have hA : At w (((w5.alloc (.cells #[.int .i64 0] 3)).alloc (.cells #[.pointer (some ⟨g, 0, none⟩)] 22)).alloc (.cells #[.int .i64 4] 3)) g g ks5 [(2, 3), (1, 5)] 0 := H5.out.blw hBa
  have hk0 : (((w5.alloc (.cells #[.int .i64 0] 3)).alloc (.cells #[.pointer (some ⟨g, 0, none⟩)] 22)).alloc (.cells #[.int .i64 4] 3)).heap[w5.heap.size]? = some (.cells #[.int .i64 0] 3 (0, 0)) := by
    rw [Below.heap_alloc _ _ _ (by simp; omega), Below.heap_alloc _ _ _ (by simp)]; exact heap_alloc_new w5 _
  have hk1 : (((w5.alloc (.cells #[.int .i64 0] 3)).alloc (.cells #[.pointer (some ⟨g, 0, none⟩)] 22)).alloc (.cells #[.int .i64 4] 3)).heap[w5.heap.size + 1]? = some (.cells #[.pointer (some ⟨g, 0, none⟩)] 22 (0, 0)) := by
    rw [Below.heap_alloc _ _ _ (by simp)]
    have := heap_alloc_new (w5.alloc (.cells #[.int .i64 0] 3)) (.cells #[.pointer (some ⟨g, 0, none⟩)] 22); rwa [World.size_alloc] at this
  have hk2 : (((w5.alloc (.cells #[.int .i64 0] 3)).alloc (.cells #[.pointer (some ⟨g, 0, none⟩)] 22)).alloc (.cells #[.int .i64 4] 3)).heap[w5.heap.size + 1 + 1]? = some (.cells #[.int .i64 4] 3 (0, 0)) := by
    have := heap_alloc_new ((w5.alloc (.cells #[.int .i64 0] 3)).alloc (.cells #[.pointer (some ⟨g, 0, none⟩)] 22)) (.cells #[.int .i64 4] 3); rwa [World.size_alloc, World.size_alloc] at this
  have hsz : (((w5.alloc (.cells #[.int .i64 0] 3)).alloc (.cells #[.pointer (some ⟨g, 0, none⟩)] 22)).alloc (.cells #[.int .i64 4] 3)).heap.size = w5.heap.size + 3 := by simp
  have hown : ∀ j, own g ks5 j → j < w5.heap.size := fun j hj => H5.out.wh.own_lt hj
  have hlow := H5.out.own
  have hz0 : w.heap.size ≤ w5.heap.size := H5.out.below.size
  obtain ⟨W0, HW0⟩ : ∃ W0, ((w5.alloc (.cells #[.int .i64 0] 3)).alloc (.cells #[.pointer (some ⟨g, 0, none⟩)] 22)).alloc (.cells #[.int .i64 4] 3) = W0 := ⟨_, rfl⟩
  rw [HW0] at hA hk0 hk1 hk2 hsz ⊢
  obtain ⟨z, HZ⟩ : ∃ z, w5.heap.size = z := ⟨_, rfl⟩
  rw [HZ] at hk0 hk1 hk2 hsz hown hz0 ⊢
  clear HZ HW0 hBa H1 H2 H3 H4 H5
  have HAI : AI w g z ks5 [(2, 3), (1, 5)] W0 := ⟨⟨0, hk0, .inl ⟨rfl, rfl⟩⟩, hk1, hk2, fun j hj => .inl (hown j hj), hlow, hA.below⟩
  have HA := hA.wh
  have HS := Lib.hid hsz
  have HG2 := Lib.hid hz0
  clear hk0 hk1 hk2 hsz hown hlow hz0 hA
  refine (wpIn_wide (n := 0 + 1)).1 ?_
  refine range_turn (g := g) (B := g) (now := 0) (tick := 4) (m := [(2, 3), (1, 5)]) (ks := ks5) rfl rfl (fun j => j = z) (AI w g z) (fun _ _ _ _ => False) (fun ks m W h => ⟨(cell_of_row _ _ 0 _ _ _ h.c1).trans rfl, (cell_of_row _ _ 0 _ _ _ h.c2).trans rfl⟩)
    (fun ks m W ks' W' h hT ho hs => h.next HG2.out (by rw [HS.out] at hs; exact hs) (by rw [HS.out] at hT; exact hT) ho)
    (fun _ _ _ _ _ h => h.elim) (fun ks m W h j hj => ⟨by rw [HS.out]; omega, fun ho => by have := h.no j ho; omega⟩) HA HAI
    (fun x => { tmps := #[.bool false, .pointer (some ⟨g, 0, none⟩), .pointer (some ⟨z, 0, none⟩), .int .i64 x.1, .pointer (some ⟨g, 0, none⟩), .pointer (some ⟨g, 0, none⟩), .bool false, .bool false, .pointer (some ⟨g, 0, none⟩), .int .i64 0,
      .bool false, .bool false, .bool false, .pointer (some ⟨g, 0, none⟩), .int .i64 0, .bool false, .bool false, .bool false, .pointer (some ⟨g, 0, none⟩), .int .i64 13, .bool false, .bool false, .bool false, .pointer (some ⟨g, 0, none⟩), .int .i64 14, .bool false,
      .bool false, .pointer (some ⟨g, 0, none⟩), .func (.func 27) #[] #[.pointer (some ⟨z + 1, 0, none⟩), .pointer (some ⟨z + 1 + 1, 0, none⟩)], .int .i64 x.1, .int .i64 x.2, undef, undef, undef, undef, undef, undef, undef, undef, undef, undef, undef, undef, undef], defers := [] }) ?assign ?body ?done ?stop
  case assign =>
    intro l x W K hK
    gi_wp2
    exact hK
  case body =>
    rintro l ks t r W hi hw hle hsz
    have ht : t = (2, 3) := by
      obtain ⟨last, _, hl⟩ := hi.c0
      rcases hl with ⟨hm, _⟩ | ⟨hm, _⟩
      · simp only [List.cons.injEq] at hm; exact hm.1
      · simp only [List.cons.injEq] at hm
        rw [hm.1] at hle
        exact absurd hle (by decide)
    subst ht
    have HP := Lib.hid (hi.wrote HG2.out)
    obtain ⟨last, hc0, _⟩ := hi.c0
    have hc := (cell_of_row W z 0 _ _ _ hc0).trans rfl
    have hf : W.frozen? ⟨z, 0, none⟩ = false := by simp only [World.frozen?, hc0]; rfl
    clear hi hle hsz hc0 hw
    gi_wp2
    exact HP.out
  case done =>
    rintro D ks m W hD hs hK hno hwh hi hend
    have hm : m = [(1, 5)] ∧ W.heap[z]? = some (.cells #[.int .i64 2] 3 (0, 0)) := by
      obtain ⟨last, hc0, hl⟩ := hi.c0
      rcases hl with ⟨hm, _⟩ | ⟨hm, he⟩
      · rcases hend with h | ⟨t, r, h1, h2⟩
        · rw [h] at hm; cases hm
        · rw [hm] at h1
          simp only [List.cons.injEq] at h1
          rw [← h1.1] at h2
          exact absurd h2 (by decide)
      · rw [he] at hc0; exact ⟨hm, hc0⟩
    obtain ⟨rfl, hc0⟩ := hm
    have hc := (cell_of_row W z 0 _ _ _ hc0).trans rfl
    have HL := Lib.hid (len_wh hwh)
    have HN := Lib.hid (now_wh hwh)
    have HK := Lib.hid hK
    have HBW := Lib.hid (putObj_below hi.below (Nat.le_trans HG2.out (Nat.le_trans (by rw [HS.out]; omega) hD)) (.deferred none))
    clear hK hc0 hi hend hwh hs hno
    go_wp2_with fail
    have hX := HL.out; go_fit hX; clear hX; rintro e w9 ⟨rfl, rfl⟩
    go_wp2_with fail
    have hX := HN.out; go_fit hX; clear hX; rintro e w9 ⟨rfl, rfl⟩
    go_wp2
    refine ⟨by simp, .inl ⟨_, _, rfl, run_takeDeferred HK.out, ?_⟩⟩
    exact ⟨_, results_tmp rfl _ _ _, rfl, HBW.out⟩
  case stop =>
    rintro D c ks m W _ _ _ _ _ h
    exact h.elim
end Go.Proofs.Ytppefdodhbdlpaa.H
