import Derived.Test.YtppefdodhbdlpaaVDa
namespace Go.Proofs.Ytppefdodhbdlpaa.H
open Go.RowKit Go.Shelf
set_option linter.unusedVariables false
set_option linter.unusedSimpArgs false
attribute [local go_sem] Oper.semAt_some
variable {w : World} {B g : Nat} {ks : Nat → Option Nat} {now n : Int} {m r l : List (Int × Int)} {t : Int × Int} {b o : Nat} {v : Value}
def TurnX (now tick N : Int) (m' : List (Int × Int)) (now' : Int) : Prop := now' = nowAt now tick ∧ (N ≤ 0 → m' = [] ∨ ∃ t r, m' = t :: r ∧ now' < t.2)
/-- what the loop of turn carries -/
structure TI (w : World) (g z b : Nat) (ks0 : Ks) (nw kind id tick N : Int) (ks : Ks) (m : List (Int × Int)) (W : World) : Prop where
  c0 : ∃ A cap o, W.heap[z]? = some (.cells #[.slice A m.length cap, .int .i64 nw] 32 (0, 0)) ∧ MR W (.slice A m.length cap) m b o
  c1 : W.heap[z + 1]? = some (.cells #[.int .i64 kind, .int .i64 id, .int .i64 tick, .int .i64 N] 34 (0, 0))
  c2 : W.heap[z + 1 + 1]? = some (.cells #[.slice none 0 0, .int .i64 0] 32 (0, 0))
  c3 : W.heap[z + 1 + 1 + 1]? = some (.cells #[.bool false] 4 (0, 0))
  c4 : ∃ k : Nat, W.heap[z + 1 + 1 + 1 + 1]? = some (.cells #[.int .i64 k] 3 (0, 0)) ∧ k + m.length ≤ 1024
  c5 : W.heap[z + 1 + 1 + 1 + 1 + 1]? = some (.cells #[.pointer (some ⟨g, 0, none⟩)] 22 (0, 0))
  c6 : W.heap[z + 1 + 1 + 1 + 1 + 1 + 1]? = some (.cells #[.int .i64 tick] 3 (0, 0))
  no : ∀ j, own g ks j → j < z ∨ z + 7 ≤ j
  nb : 0 < m.length → ¬ own g ks b ∧ b < z
  tu : Turned w W (own g ks0)
  ho : ∀ j, own g ks j → own g ks0 j ∨ w.heap.size ≤ j
/-- the same behind a return -/
structure TR (w : World) (g z b : Nat) (ks0 : Ks) (nw : Int) (ks : Ks) (m : List (Int × Int)) (W : World) : Prop where
  c2 : ∃ A cap o, W.heap[z + 1 + 1]? = some (.cells #[.slice A m.length cap, .int .i64 nw] 32 (0, 0)) ∧ MR W (.slice A m.length cap) m b o
  c3 : W.heap[z + 1 + 1 + 1]? = some (.cells #[.bool true] 4 (0, 0))
  nb : 0 < m.length → ¬ own g ks b ∧ b < z
  tu : Turned w W (own g ks0)
  ho : ∀ j, own g ks j → own g ks0 j ∨ w.heap.size ≤ j
variable {z : Nat} {ks0 ks' : Ks} {nw kind id tick N : Int} {W W' : World}
theorem TI.next (h : TI w g z b ks0 nw kind id tick N ks m W) (hz : w.heap.size = z) (hs : z + 7 ≤ W.heap.size) (hT : Turned W W' (fun j => own g ks j ∨ z + 7 ≤ j)) (ho : ∀ j, own g ks' j → own g ks j ∨ W.heap.size ≤ j) : TI w g z b ks0 nw kind id tick N ks' m W' := by
  obtain ⟨⟨A, cap, o, c0, hm⟩, c1, c2, c3, ⟨k, c4, hk⟩, c5, c6, no, nb, tu, ho0⟩ := h
  have key : ∀ j, z ≤ j → j < z + 7 → W'.heap[j]? = W.heap[j]? := fun j h1 h2 => hT.block j (by omega) (fun h3 => by
    rcases h3 with h3 | h3
    · have := no j h3; omega
    · omega)
  refine ⟨⟨A, cap, o, (key _ (by omega) (by omega)).trans c0, hm.turned hT (fun h0 h3 => ?_)⟩, (key _ (by omega) (by omega)).trans c1, (key _ (by omega) (by omega)).trans c2, (key _ (by omega) (by omega)).trans c3, ⟨k, (key _ (by omega) (by omega)).trans c4, hk⟩,
    (key _ (by omega) (by omega)).trans c5, (key _ (by omega) (by omega)).trans c6, fun j hj => ?_, fun h0 => ⟨fun hj => ?_, (nb h0).2⟩, tu.trans hT (fun j hj => ?_), fun j hj => ?_⟩
  · have := nb h0
    rcases h3 with h3 | h3
    · exact this.1 h3
    · omega
  · rcases ho j hj with h | h
    · exact no j h
    · exact .inr (by omega)
  · rcases ho b hj with h | h
    · exact (nb h0).1 h
    · have := (nb h0).2; omega
  · rcases hj with h | h
    · exact ho0 j h
    · exact .inr (by omega)
  · rcases ho j hj with h | h
    · exact ho0 j h
    · exact .inr (by omega)
theorem TR.next (h : TR w g z b ks0 nw ks m W) (hz : w.heap.size = z) (hs : z + 7 ≤ W.heap.size) (hT : Turned W W' (fun j => z + 7 ≤ j)) : TR w g z b ks0 nw ks m W' := by
  obtain ⟨⟨A, cap, o, c2, hm⟩, c3, nb, tu, ho0⟩ := h
  exact ⟨⟨A, cap, o, (hT.block _ (by omega) (by omega)).trans c2, hm.turned hT (fun h0 h3 => by have := nb h0; omega)⟩, (hT.block _ (by omega) (by omega)).trans c3, nb, tu.trans hT (fun j hj => .inr (by omega)), ho0⟩
theorem setCell2_turned {w : World} {z j : Nat} {u : Value} {cs : Array Value} {ty : TypeId} {T : Nat → Prop} (h : w.heap[z]? = some (.cells cs ty (0, 0))) (hT : T z) : Turned w (w.setCell ⟨z, j, none⟩ u) T := (setCell_turned h).mono (fun k hk => by rw [hk]; exact hT)
theorem TI.on {A' : Option Addr} {cap' o' k : Nat} (h : TI w g z b ks0 nw kind id tick N ks (t :: r) W) (hz : w.heap.size = z) (hm : MR W (.slice A' r.length cap') r b o') (hk : W.heap[z + 1 + 1 + 1 + 1]? = some (.cells #[.int .i64 k] 3 (0, 0))) :
    Turned W ((W.setCell ⟨z, 0, none⟩ (.slice A' r.length cap')).setCell ⟨z + 1 + 1 + 1 + 1, 0, none⟩ (.int .i64 ((k : Int) + 1))) (fun j => z ≤ j ∧ j < z + 5) ∧
      TI w g z b ks0 nw kind id tick N ks r ((W.setCell ⟨z, 0, none⟩ (.slice A' r.length cap')).setCell ⟨z + 1 + 1 + 1 + 1, 0, none⟩ (.int .i64 ((k : Int) + 1))) := by
  obtain ⟨⟨A, cap, o, c0, hm0⟩, c1, c2, c3, ⟨k', c4, hk'⟩, c5, c6, no, nb, tu, ho0⟩ := h
  obtain rfl : k' = k := by rw [hk] at c4; simp at c4; omega
  have hT1 := setCell_turned (j := 0) (u := .slice A' r.length cap') c0
  have c0' := setCell_heap (i := 0) (u := .slice A' r.length cap') c0
  have c4' := (hT1.block (z + 1 + 1 + 1 + 1) (Array.getElem?_eq_some_iff.1 c4).1 (by omega)).trans c4
  have hT2 := setCell_turned (j := 0) (u := .int .i64 ((k' : Int) + 1)) c4'
  have c4'' := setCell_heap (i := 0) (u := .int .i64 ((k' : Int) + 1)) c4'
  have hT : Turned W ((W.setCell ⟨z, 0, none⟩ (.slice A' r.length cap')).setCell ⟨z + 1 + 1 + 1 + 1, 0, none⟩ (.int .i64 ((k' : Int) + 1))) (fun j => j = z ∨ j = z + 4) := (hT1.mono (fun j hj => .inl hj)).trans hT2 (fun j hj => .inl (.inr (by omega)))
  have kp : ∀ {j : Nat} {ob : Obj}, W.heap[j]? = some ob → j ≠ z → j ≠ z + 4 → ((W.setCell ⟨z, 0, none⟩ (.slice A' r.length cap')).setCell ⟨z + 1 + 1 + 1 + 1, 0, none⟩ (.int .i64 ((k' : Int) + 1))).heap[j]? = some ob := fun hj h1 h2 => (hT.block _ (Array.getElem?_eq_some_iff.1 hj).1 (by omega)).trans hj
  refine ⟨hT.mono (fun j hj => by omega), ⟨⟨A', cap', o', (hT2.block z (by have := hT1.size; have := (Array.getElem?_eq_some_iff.1 c0).1; omega) (by omega)).trans c0', hm.turned hT (fun h0 h1 => by have := nb (by simp); omega)⟩, kp c1 (by omega) (by omega), kp c2 (by omega) (by omega), kp c3 (by omega) (by omega), ⟨k' + 1, c4'', by simp at hk'; omega⟩,
    kp c5 (by omega) (by omega), kp c6 (by omega) (by omega), no, fun h0 => nb (by simp), tu.trans hT (fun j hj => .inr (by omega)), ho0⟩⟩
theorem TI.ret {A : Option Addr} {cap o : Nat} (h : TI w g z b ks0 nw kind id tick N ks m W) (hz : w.heap.size = z) (hm : MR W (.slice A m.length cap) m b o) :
    Turned W (((W.setCell ⟨z + 1 + 1, 0, none⟩ (.slice A m.length cap)).setCell ⟨z + 1 + 1, 1, none⟩ (.int .i64 nw)).setCell ⟨z + 1 + 1 + 1, 0, none⟩ (.bool true)) (fun j => z ≤ j ∧ j < z + 5) ∧
      TR w g z b ks0 nw ks m (((W.setCell ⟨z + 1 + 1, 0, none⟩ (.slice A m.length cap)).setCell ⟨z + 1 + 1, 1, none⟩ (.int .i64 nw)).setCell ⟨z + 1 + 1 + 1, 0, none⟩ (.bool true)) := by
  obtain ⟨_, c1, c2, c3, _, c5, c6, no, nb, tu, ho0⟩ := h
  have hT1 := setCell_turned (j := 0) (u := .slice A m.length cap) c2
  have c2' := setCell_heap (i := 0) (u := .slice A m.length cap) c2
  have hT2 := setCell_turned (j := 1) (u := .int .i64 nw) c2'
  have c2'' := setCell_heap (i := 1) (u := .int .i64 nw) c2'
  have hT12 : Turned W ((W.setCell ⟨z + 1 + 1, 0, none⟩ (.slice A m.length cap)).setCell ⟨z + 1 + 1, 1, none⟩ (.int .i64 nw)) (fun j => j = z + 1 + 1) := hT1.trans hT2 (fun j hj => .inl hj)
  have c3' := (hT12.block (z + 1 + 1 + 1) (Array.getElem?_eq_some_iff.1 c3).1 (by omega)).trans c3
  have hT3 := setCell_turned (j := 0) (u := .bool true) c3'
  have c3'' := setCell_heap (i := 0) (u := .bool true) c3'
  have hT : Turned W (((W.setCell ⟨z + 1 + 1, 0, none⟩ (.slice A m.length cap)).setCell ⟨z + 1 + 1, 1, none⟩ (.int .i64 nw)).setCell ⟨z + 1 + 1 + 1, 0, none⟩ (.bool true)) (fun j => j = z + 2 ∨ j = z + 3) := (hT12.mono (fun j hj => .inl (by omega))).trans hT3 (fun j hj => .inl (.inr (by omega)))
  have hl2 : z + 1 + 1 < ((W.setCell ⟨z + 1 + 1, 0, none⟩ (.slice A m.length cap)).setCell ⟨z + 1 + 1, 1, none⟩ (.int .i64 nw)).heap.size := (Array.getElem?_eq_some_iff.1 c2'').1
  exact ⟨hT.mono (fun j hj => by omega), ⟨A, cap, o, (hT3.block (z + 1 + 1) hl2 (by omega)).trans c2'', hm.turned hT (fun h0 h1 => by have := nb h0; omega)⟩, c3'', nb, tu.trans hT (fun j hj => .inr (by omega)), ho0⟩
theorem TR.post (h : TR w g z b ks0 nw ks m W) (hz : w.heap.size = z) (hs : z + 7 ≤ W.heap.size) (hw : Wh W B g ks m nw) {D : Nat} (hD : z + 7 ≤ D) (hnd : ¬ own g ks D) {X : List (Int × Int) → Int → Prop} (hX : X m nw) :
    ∃ v, W.heap[z + 1 + 1]? = some (.cells #[v, .int .i64 nw] 32 (0, 0)) ∧ W.heap[z + 1 + 1 + 1]? = some (.cells #[.bool true] 4 (0, 0)) ∧ TwoPost w B g ks0 b X (.returned (.tuple #[.agg #[v, .int .i64 nw], .bool true])) (W.putObj D (.deferred none)) := by
  have hT : Turned W (W.putObj D (.deferred none)) (fun j => j = D) := putObj_turned _ _ _
  have h2 := h.next hz hs (hT.mono (fun j hj => by omega))
  obtain ⟨⟨A, cap, o, c2, hm⟩, c3, nb, tu, ho0⟩ := h
  obtain ⟨⟨A2, cap2, o2, c22, hm2⟩, c32, nb2, tu2, ho2⟩ := h2
  refine ⟨_, c2, c3, ks, m, nw, _, b, o, rfl, ⟨hw.turned hT (fun j hj => by rw [hj]; exact hnd), hm.turned hT (fun h0 h1 => by have := nb h0; omega), fun h0 => (nb h0).1⟩, tu2, ho0, fun h0 => .inl ⟨rfl, by have := nb h0; omega⟩, hX⟩
theorem alloc7 (w : World) (o0 o1 o2 o3 o4 o5 o6 : Obj) : ∃ W, ((((((w.alloc o0).alloc o1).alloc o2).alloc o3).alloc o4).alloc o5).alloc o6 = W ∧ W.heap[w.heap.size]? = some o0 ∧ W.heap[w.heap.size + 1]? = some o1 ∧ W.heap[w.heap.size + 1 + 1]? = some o2 ∧ W.heap[w.heap.size + 1 + 1 + 1]? = some o3 ∧ W.heap[w.heap.size + 1 + 1 + 1 + 1]? = some o4 ∧ W.heap[w.heap.size + 1 + 1 + 1 + 1 + 1]? = some o5 ∧ W.heap[w.heap.size + 1 + 1 + 1 + 1 + 1 + 1]? = some o6 ∧ W.heap.size = w.heap.size + 7 ∧ Below w.heap.size w W := by
  refine ⟨_, rfl, ?_, ?_, ?_, ?_, ?_, ?_, ?_, by simp, ((((((((Below.refl _ w).alloc (Nat.le_refl _) _).alloc (by simp) _).alloc (by simp; omega) _).alloc (by simp; omega) _).alloc (by simp; omega) _).alloc (by simp; omega) _).alloc (by simp; omega) _)⟩ <;>
    (simp only [World.alloc, Array.getElem?_push, Array.size_push, if_true]; repeat (first | rw [if_pos rfl] | rw [if_neg (by omega)]))
theorem TI.fin {A : Option Addr} {cap o D : Nat} (h : TI w g z b ks0 nw kind id tick N ks m W) (hz : w.heap.size = z) (hm : MR W (.slice A m.length cap) m b o) (hwh : Wh W B g ks m nw) (hK : W.heap[D]? = some (.deferred (some []))) (hD : z + 7 ≤ D) (hno : ¬ own g ks D) (hs : z + 7 ≤ W.heap.size) {X : List (Int × Int) → Int → Prop} (hX : X m nw) :
    ∀ W3, W3 = (((W.setCell ⟨z + 1 + 1, 0, none⟩ (.slice A m.length cap)).setCell ⟨z + 1 + 1, 1, none⟩ (.int .i64 nw)).setCell ⟨z + 1 + 1 + 1, 0, none⟩ (.bool true)).drew → ∃ v, (W3.putObj D (.deferred none)).cell? ⟨z + 1 + 1, 0, none⟩ = some v ∧ (W3.putObj D (.deferred none)).cell? ⟨z + 1 + 1, 1, none⟩ = some (.int .i64 nw) ∧ (W3.putObj D (.deferred none)).cell? ⟨z + 1 + 1 + 1, 0, none⟩ = some (.bool true) ∧ W3.heap[D]? = some (.deferred (some [])) ∧ TwoPost w B g ks0 b X (.returned (.tuple #[.agg #[v, .int .i64 nw], .bool true])) (W3.putObj D (.deferred none)) := by
  rintro W3 hW3
  have hr := h.ret hz hm
  have hno' := h.no
  obtain ⟨Wa, hWa⟩ : ∃ Wa, ((W.setCell ⟨z + 1 + 1, 0, none⟩ (.slice A m.length cap)).setCell ⟨z + 1 + 1, 1, none⟩ (.int .i64 nw)).setCell ⟨z + 1 + 1 + 1, 0, none⟩ (.bool true) = Wa := ⟨_, rfl⟩
  rw [hWa] at hr hW3
  have hsz : z + 7 ≤ Wa.heap.size := Nat.le_trans hs hr.1.size
  have hdr : Turned Wa W3 (fun j => z + 7 ≤ j) := by rw [hW3]; exact ⟨rfl, rfl, rfl, Nat.le_refl _, fun _ _ _ => rfl⟩
  have htr : TR w g z b ks0 nw ks m W3 := hr.2.next hz hsz hdr
  have hwa : Wh Wa B g ks m nw := hwh.turned hr.1 (fun j h1 h2 => by have := hno' j h2; omega)
  have hw3 : Wh W3 B g ks m nw := by rw [hW3]; exact hwa.drew
  have hKa : Wa.heap[D]? = some (.deferred (some [])) := (hr.1.block D (Array.getElem?_eq_some_iff.1 hK).1 (by omega)).trans hK
  have hK3 : W3.heap[D]? = some (.deferred (some [])) := by rw [hW3]; exact hKa
  obtain ⟨v, h2, h3, hP⟩ := htr.post hz (Nat.le_trans hsz hdr.size) hw3 hD hno hX
  have hT : Turned W3 (W3.putObj D (.deferred none)) (fun j => j = D) := putObj_turned _ _ _
  have g2 := (hT.block _ (Array.getElem?_eq_some_iff.1 h2).1 (by omega)).trans h2
  have g3 := (hT.block _ (Array.getElem?_eq_some_iff.1 h3).1 (by omega)).trans h3
  exact ⟨v, (cell_of_row _ (z + 1 + 1) 0 _ _ _ g2).trans rfl, (cell_of_row _ (z + 1 + 1) 1 _ _ _ g2).trans rfl, (cell_of_row _ (z + 1 + 1 + 1) 0 _ _ _ g3).trans rfl, hK3, hP⟩
theorem cs_far (V : World) (p : Addr) (u : Value) (q : Addr) (h : q.block ≠ p.block) : (V.setCell p u).cell? q = V.cell? q := World.cell?_of_block (Below.heap_setCell V p u q.block h)
theorem cs_far2 (V : World) (p : Addr) (u : Value) (p2 : Addr) (u2 : Value) (q : Addr) (h : q.block ≠ p.block) (h2 : q.block ≠ p2.block) : ((V.setCell p u).setCell p2 u2).cell? q = V.cell? q := (cs_far _ _ _ _ h2).trans (cs_far _ _ _ _ h)
set_option maxHeartbeats 4000000 in
set_option maxRecDepth 100000 in
theorem turn_law (h : Two w B g ks m now v b o) (kind id tick N : Int) :
    Calls Try.prog 15 #[.pointer (some ⟨g, 0, none⟩), .agg #[v, .int .i64 now], .agg #[.int .i64 kind, .int .i64 id, .int .i64 tick, .int .i64 N]] w (TwoPost w B g ks b (TurnX now tick N)) := by
  obtain ⟨A, cap, hv, hlc, hcm, hA⟩ := h.mr.val
  have HT := Lib.hid h
  clear h hA hlc hcm
  subst hv
  refine (callsIn_wide (n := 3)).1 ?_
  refine callsIn_of_wp_marks Try.func15 rfl trivial ?_ rfl
  simp only [Try.ntmps15, List.size_toArray, List.length_nil, List.length_cons, Nat.reduceAdd, Nat.reduceSub, Array.replicate_succ, Array.replicate_zero, List.push_toArray, List.append_toArray, List.nil_append, List.cons_append]
  refine wpIn_wide.2 ?_
  have HTC := Lib.hid (fun W => turn_c W g tick)
  go_wp2_with fail
  go_fit (HTC.out _); rintro e w6 ⟨rfl, rfl⟩
  go_wp2_with fail
  rw [show max now (min tick 2199023255552) = nowAt now tick from rfl]
  obtain ⟨W0, HW0, k0, k1, k2, k3, k4, k5, k6, hsz, hbel⟩ := alloc7 w (.cells #[.slice A m.length cap, .int .i64 (nowAt now tick)] 32) (.cells #[.int .i64 kind, .int .i64 id, .int .i64 tick, .int .i64 N] 34) (.cells #[.slice none 0 0, .int .i64 0] 32) (.cells #[.bool false] 4) (.cells #[.int .i64 0] 3) (.cells #[.pointer (some ⟨g, 0, none⟩)] 22) (.cells #[.int .i64 tick] 3)
  rw [HW0]
  have hmr : MR W0 (.slice A m.length cap) m b o := HT.out.mr.below hbel
  have hown : ∀ j, own g ks j → j < w.heap.size := fun j hj => HT.out.wh.own_lt hj
  have hbz : 0 < m.length → b < w.heap.size := fun h0 => block_lt_of_cell (HT.out.mr.cells 0 h0).1
  have hTI : TI w g w.heap.size b ks (nowAt now tick) kind id tick N ks m W0 := ⟨⟨A, cap, o, k0, hmr⟩, k1, k2, k3, ⟨0, k4, by have := HT.out.wh.good.len; omega⟩, k5, k6, fun j hj => .inl (hown j hj), fun h0 => ⟨HT.out.nb h0, hbz h0⟩, Turned.of_below hbel, fun j hj => .inl hj⟩
  have HWH := Lib.hid (HT.out.wh.below hbel)
  obtain ⟨z, HZ⟩ : ∃ z, Hid (w.heap.size = z) := ⟨_, Lib.hid rfl⟩
  rw [HZ.out] at hTI hsz ⊢
  have HTI := Lib.hid hTI
  have HS := Lib.hid hsz
  clear HW0 k0 k1 k2 k3 k4 k5 k6 hsz hbel hmr hown hbz hTI
  refine (wpIn_wide (n := 0 + 1)).1 ?_
  refine range_turn (g := g) (B := B) (now := now) (tick := tick) (m := m) (ks := ks) rfl rfl (fun j => z ≤ j ∧ j < z + 5) (TI w g z b ks (nowAt now tick) kind id tick N) (fun c ks' m' W => c = .ret ∧ 0 < N ∧ TR w g z b ks (nowAt now tick) ks' m' W) (fun ks m W h => ⟨(cell_of_row _ _ 0 _ _ _ h.c5).trans rfl, (cell_of_row _ _ 0 _ _ _ h.c6).trans rfl⟩)
    (fun ks m W ks' W' h hT ho hs => h.next HZ.out (by rw [HS.out] at hs; exact hs) (by rw [HS.out] at hT; exact hT) ho)
    (fun c ks m W W' h hT hs => ⟨h.1, h.2.1, h.2.2.next HZ.out (by rw [HS.out] at hs; exact hs) (by rw [HS.out] at hT; exact hT)⟩) (fun ks m W h j hj => ⟨by rw [HS.out]; omega, fun ho => by have := h.no j ho; omega⟩) HWH.out HTI.out
    (fun x => { tmps := #[.pointer (some ⟨g, 0, none⟩), .agg #[.slice A m.length cap, .int .i64 now], .agg #[.int .i64 kind, .int .i64 id, .int .i64 tick, .int .i64 N], undef, .pointer (some ⟨z, 0, none⟩), .pointer (some ⟨z + 1, 0, none⟩), .pointer (some ⟨z + 1 + 1, 0, none⟩), .pointer (some ⟨z + 1 + 1 + 1, 0, none⟩), .pointer (some ⟨z + 1 + 1 + 1 + 1, 0, none⟩), .int .i64 x.1, .int .i64 x.2, .pointer (some ⟨z, 1, none⟩), .int .i64 now, .pointer (some ⟨z + 1, 2, none⟩), .int .i64 tick, .int .i64 (min tick 2199023255552), .int .i64 (nowAt now tick), .pointer (some ⟨z, 1, none⟩), .pointer (some ⟨g, 0, none⟩), .pointer (some ⟨z + 1, 2, none⟩), .int .i64 tick, .func (.func 27) #[] #[.pointer (some ⟨z + 1 + 1 + 1 + 1 + 1, 0, none⟩), .pointer (some ⟨z + 1 + 1 + 1 + 1 + 1 + 1, 0, none⟩)], .int .i64 x.1, .int .i64 x.2, undef, undef, undef, undef, undef, undef, undef, undef, undef, undef, undef, undef, undef, undef, undef, undef, undef, undef, undef, undef, undef, undef, undef, undef, undef, undef, undef, undef, undef, undef, undef, undef, undef, undef, undef, undef, undef, undef, undef, undef, undef, undef, undef, undef, undef, undef, undef], defers := [] }) ?assign ?body ?done ?stop
  case assign =>
    intro l x W K hK
    gi_wp2
    exact hK
  case body =>
    rintro l ks1 t r W hi hw hle hsz
    obtain ⟨t1, t2⟩ := t
    dsimp only at hle
    have HI := Lib.hid hi
    obtain ⟨⟨A1, cap1, o1, c0, hm⟩, c1, c2, c3, ⟨k, c4, hk⟩, c5, c6, no, nb, tu, ho⟩ := hi
    obtain ⟨A', cap', he, hlc, hcm, hA⟩ := hm.val
    obtain ⟨rfl, rfl⟩ : A1 = A' ∧ cap1 = cap' := by simpa using he
    obtain rfl := hA (by simp)
    have HM := Lib.hid hm
    have HK := Lib.hid c4
    have hcs := hm.cells 0 (by simp)
    simp only [List.length_cons] at c0 hlc hk
    by_cases hc : cap1 = 1
    · have hr : r = [] := by cases r with | nil => rfl | cons x xs => simp at hlc; omega
      subst hc; subst hr
      simp only [List.length_nil, Nat.zero_add] at c0 hk
      have m0 : W.cell? ⟨b, o1, none⟩ = some (.int .i64 t1) := hcs.1
      have m1 : W.cell? ⟨b, o1 + 1, none⟩ = some (.int .i64 t2) := hcs.2
      have a0 := (cell_of_row W z 0 _ _ _ c0).trans rfl
      have a1 := (cell_of_row W z 1 _ _ _ c0).trans rfl
      have b3 := (cell_of_row W (z + 1) 3 _ _ _ c1).trans rfl
      have d0 := (cell_of_row W (z + 1 + 1) 0 _ _ _ c2).trans rfl
      have d1 := (cell_of_row W (z + 1 + 1) 1 _ _ _ c2).trans rfl
      have e0 := (cell_of_row W (z + 1 + 1 + 1) 0 _ _ _ c3).trans rfl
      have k0 := (cell_of_row W (z + 1 + 1 + 1 + 1) 0 _ _ _ c4).trans rfl
      have f0 : W.frozen? ⟨z, 0, none⟩ = false := by simp only [World.frozen?, c0]; rfl
      have f2 : W.frozen? ⟨z + 1 + 1, 0, none⟩ = false := by simp only [World.frozen?, c2]; rfl
      have f2' : W.frozen? ⟨z + 1 + 1, 1, none⟩ = false := by simp only [World.frozen?, c2]; rfl
      have f3 : W.frozen? ⟨z + 1 + 1 + 1, 0, none⟩ = false := by simp only [World.frozen?, c3]; rfl
      have f4 : W.frozen? ⟨z + 1 + 1 + 1 + 1, 0, none⟩ = false := by simp only [World.frozen?, c4]; rfl
      have HNB := Lib.hid nb
      have hbz : b < z := (nb (by simp)).2
      have hbne : ¬ b = z := by omega
      clear hcs hm he c0 c1 c2 c3 c4 c5 c6 no nb tu ho hw hsz
      have hneq := fun w => neq58_same t1 t2 w
      have hgt : decide (nowAt now tick < t2) = false := decide_eq_false (by omega)
      have hkz : (k : Int) + 1 ≤ 1024 := by omega
      have HMR : Hid (MR W (.slice (some ⟨b, o1, none⟩) ([] : List (Int × Int)).length 0) [] b o1) := Lib.hid ⟨⟨_, 0, rfl, Nat.le_refl _, Nat.zero_le _, fun _ => rfl⟩, fun j hj => by simp at hj⟩
      have HOn := Lib.hid (HI.out.on (A' := some ⟨b, o1, none⟩) (cap' := 0) (o' := o1) HZ.out HMR.out HK.out)
      by_cases hN : (k : Int) + 1 = N
      · have hNd : ((k : Int) + 1 == N) = true := beq_iff_eq.2 hN
        have hNp : Hid (0 < N) := Lib.hid (by omega)
        clear hN
        skip
        have HRT := Lib.hid (HOn.out.2.ret HZ.out (HMR.out.turned HOn.out.1 (fun h0 h1 => by have := (HNB.out (by simp)).2; omega)))
        have HTT := Lib.hid (And.intro (HOn.out.1.trans HRT.out.1 (fun k hk => .inl hk)) HRT.out.2)
        simp only [List.length_nil] at HTT
        gi_wp2
        exact ⟨HTT.out.1, rfl, hNp.out, HTT.out.2⟩
      · have hNd : ((k : Int) + 1 == N) = false := beq_eq_false_iff_ne.2 hN
        simp only [List.length_nil] at HOn
        gi_wp2
        exact HOn.out
    · obtain ⟨q, HQ⟩ : ∃ q, Hid (r.length = q) := ⟨_, Lib.hid rfl⟩
      rw [HQ.out] at c0 hlc hk
      have m0 : W.cell? ⟨b, o1, none⟩ = some (.int .i64 t1) := hcs.1
      have m1 : W.cell? ⟨b, o1 + 1, none⟩ = some (.int .i64 t2) := hcs.2
      have a0 := (cell_of_row W z 0 _ _ _ c0).trans rfl
      have a1 := (cell_of_row W z 1 _ _ _ c0).trans rfl
      have b3 := (cell_of_row W (z + 1) 3 _ _ _ c1).trans rfl
      have d0 := (cell_of_row W (z + 1 + 1) 0 _ _ _ c2).trans rfl
      have d1 := (cell_of_row W (z + 1 + 1) 1 _ _ _ c2).trans rfl
      have e0 := (cell_of_row W (z + 1 + 1 + 1) 0 _ _ _ c3).trans rfl
      have k0 := (cell_of_row W (z + 1 + 1 + 1 + 1) 0 _ _ _ c4).trans rfl
      have f0 : W.frozen? ⟨z, 0, none⟩ = false := by simp only [World.frozen?, c0]; rfl
      have f2 : W.frozen? ⟨z + 1 + 1, 0, none⟩ = false := by simp only [World.frozen?, c2]; rfl
      have f2' : W.frozen? ⟨z + 1 + 1, 1, none⟩ = false := by simp only [World.frozen?, c2]; rfl
      have f3 : W.frozen? ⟨z + 1 + 1 + 1, 0, none⟩ = false := by simp only [World.frozen?, c3]; rfl
      have f4 : W.frozen? ⟨z + 1 + 1 + 1 + 1, 0, none⟩ = false := by simp only [World.frozen?, c4]; rfl
      have HNB := Lib.hid nb
      have hbz : b < z := (nb (by simp)).2
      have hbne : ¬ b = z := by omega
      clear hcs hm he c0 c1 c2 c3 c4 c5 c6 no nb tu ho hw hsz
      have hneq := fun w => neq58_same t1 t2 w
      have hgt : decide (nowAt now tick < t2) = false := decide_eq_false (by omega)
      have hkz : (k : Int) + 1 ≤ 1024 := by omega
      have hq0 : ((q : Int) + 1 == 0) = false := by rw [beq_eq_false_iff_ne]; omega
      have hq1 : (0 : Int) < (q : Int) + 1 := by omega
      have hq2 : (1 : Int) ≤ (q : Int) + 1 := by omega
      have hq3 : (q : Int) + 1 ≤ (cap1 : Int) := by omega
      have hmr := HM.out.tail; rw [if_neg hc] at hmr
      have HMR := Lib.hid hmr; clear hmr
      have HOn := Lib.hid (HI.out.on (A' := some ⟨b, o1 + 2, none⟩) (cap' := cap1 - 1) (o' := o1 + 2) HZ.out HMR.out HK.out)
      by_cases hN : (k : Int) + 1 = N
      · have hNd : ((k : Int) + 1 == N) = true := beq_iff_eq.2 hN
        have hNp : Hid (0 < N) := Lib.hid (by omega)
        clear hN
        have hb2 : Hid (0 < r.length → b < z) := Lib.hid (fun h0 => (HNB.out (by simp)).2)
        have HRT := Lib.hid (HOn.out.2.ret HZ.out (HMR.out.turned HOn.out.1 (fun h0 h1 => by have := (HNB.out (by simp)).2; omega)))
        have HTT := Lib.hid (And.intro (HOn.out.1.trans HRT.out.1 (fun k hk => .inl hk)) HRT.out.2)
        rw [HQ.out] at HTT
        gi_wp2
        exact ⟨HTT.out.1, rfl, hNp.out, HTT.out.2⟩
      · have hNd : ((k : Int) + 1 == N) = false := beq_eq_false_iff_ne.2 hN
        rw [HQ.out] at HOn
        gi_wp2
        exact HOn.out
  case done =>
    rintro D ks1 m1 W hD hs hK hno hwh hi hend
    rw [HS.out] at hD hs
    have HI := Lib.hid hi
    obtain ⟨⟨A1, cap1, o1, c0, hm⟩, c1, c2, c3, _, c5, c6, no, nb, tu, ho⟩ := hi
    rcases hend with rfl | ⟨t, r, rfl, hgt0⟩
    · simp only [List.length_nil] at c0
      have HFIN := Lib.hid (HI.out.fin HZ.out hm hwh hK hD hno hs (X := TurnX now tick N) ⟨rfl, fun _ => .inl rfl⟩)
      simp only [List.length_nil] at HFIN
      have a0 := (cell_of_row W z 0 _ _ _ c0).trans rfl
      have a1 := (cell_of_row W z 1 _ _ _ c0).trans rfl
      have d0 := (cell_of_row W (z + 1 + 1) 0 _ _ _ c2).trans rfl
      have d1 := (cell_of_row W (z + 1 + 1) 1 _ _ _ c2).trans rfl
      have e0 := (cell_of_row W (z + 1 + 1 + 1) 0 _ _ _ c3).trans rfl
      have f2 : W.frozen? ⟨z + 1 + 1, 0, none⟩ = false := by simp only [World.frozen?, c2]; rfl
      have f2' : W.frozen? ⟨z + 1 + 1, 1, none⟩ = false := by simp only [World.frozen?, c2]; rfl
      have f3 : W.frozen? ⟨z + 1 + 1 + 1, 0, none⟩ = false := by simp only [World.frozen?, c3]; rfl
      clear c0 c1 c2 c3 c5 c6 no nb tu ho hwh hno hK hm
      go_wp2
      go_region
      go_wp2
      obtain ⟨WE, hWE⟩ : ∃ WE, WE = (((W.setCell ⟨z + 1 + 1, 0, none⟩ (.slice A1 0 cap1)).setCell ⟨z + 1 + 1, 1, none⟩ (.int .i64 (nowAt now tick))).setCell ⟨z + 1 + 1 + 1, 0, none⟩ (.bool true)).drew := ⟨_, rfl⟩
      rw [← hWE]
      obtain ⟨v2, r0, r1, r2, hK3, hPost⟩ := HFIN.out WE hWE
      refine ⟨by simp, .inl ⟨_, _, rfl, run_takeDeferred hK3, ?_⟩⟩
      refine ⟨.tuple #[.agg #[v2, .int .i64 (nowAt now tick)], .bool true], ?_, hPost⟩
      clear hPost hWE HFIN
      simp [results, Try.results15, go_sem, r0, r1, r2]
    · obtain ⟨q, HQ⟩ : ∃ q, Hid (r.length = q) := ⟨_, Lib.hid rfl⟩
      obtain ⟨t1, t2⟩ := t
      dsimp only at hgt0
      obtain ⟨A', cap', he, hlc, hcm, hA⟩ := hm.val
      obtain ⟨rfl, rfl⟩ : A1 = A' ∧ cap1 = cap' := by simpa using he
      obtain rfl := hA (by simp)
      have hcs := hm.cells 0 (by simp)
      have m1 : W.cell? ⟨b, o1 + 1, none⟩ = some (.int .i64 t2) := hcs.2
      simp only [List.length_cons] at c0 hlc
      rw [HQ.out] at c0 hlc
      have hq0 : ((q : Int) + 1 == 0) = false := by rw [beq_eq_false_iff_ne]; omega
      have hq1 : (0 : Int) < (q : Int) + 1 := by omega
      have hgd : decide (nowAt now tick < t2) = true := decide_eq_true hgt0
      have hbz : b < z := (nb (by simp)).2
      have hbne : ¬ b = z := by omega
      have HFIN := Lib.hid (HI.out.fin HZ.out hm hwh hK hD hno hs (X := TurnX now tick N) ⟨rfl, fun _ => .inr ⟨_, _, rfl, hgt0⟩⟩)
      simp only [List.length_cons] at HFIN
      rw [HQ.out] at HFIN
      have a0 := (cell_of_row W z 0 _ _ _ c0).trans rfl
      have a1 := (cell_of_row W z 1 _ _ _ c0).trans rfl
      have d0 := (cell_of_row W (z + 1 + 1) 0 _ _ _ c2).trans rfl
      have d1 := (cell_of_row W (z + 1 + 1) 1 _ _ _ c2).trans rfl
      have e0 := (cell_of_row W (z + 1 + 1 + 1) 0 _ _ _ c3).trans rfl
      have f2 : W.frozen? ⟨z + 1 + 1, 0, none⟩ = false := by simp only [World.frozen?, c2]; rfl
      have f2' : W.frozen? ⟨z + 1 + 1, 1, none⟩ = false := by simp only [World.frozen?, c2]; rfl
      have f3 : W.frozen? ⟨z + 1 + 1 + 1, 0, none⟩ = false := by simp only [World.frozen?, c3]; rfl
      clear c0 c1 c2 c3 c5 c6 no nb tu ho hwh hno hK hm hcs he
      go_wp2
      go_region
      go_wp2
      obtain ⟨WE, hWE⟩ : ∃ WE, WE = (((W.setCell ⟨z + 1 + 1, 0, none⟩ (.slice (some ⟨b, o1, none⟩) (q + 1) cap1)).setCell ⟨z + 1 + 1, 1, none⟩ (.int .i64 (nowAt now tick))).setCell ⟨z + 1 + 1 + 1, 0, none⟩ (.bool true)).drew := ⟨_, rfl⟩
      rw [← hWE]
      obtain ⟨v2, r0, r1, r2, hK3, hPost⟩ := HFIN.out WE hWE
      refine ⟨by simp, .inl ⟨_, _, rfl, run_takeDeferred hK3, ?_⟩⟩
      refine ⟨.tuple #[.agg #[v2, .int .i64 (nowAt now tick)], .bool true], ?_, hPost⟩
      clear hPost hWE HFIN
      simp [results, Try.results15, go_sem, r0, r1, r2]
  case stop =>
    rintro D c ks1 m1 W hD hs hK hno hwh ⟨rfl, hNp, hTR⟩
    rw [HS.out] at hD hs
    obtain ⟨v2, h2, h3, hPost⟩ := hTR.post HZ.out hs hwh hD hno (X := TurnX now tick N) ⟨rfl, fun h0 => by omega⟩
    have hT : Turned W (W.putObj D (.deferred none)) (fun j => j = D) := putObj_turned _ _ _
    have g2 := (hT.block _ (Array.getElem?_eq_some_iff.1 h2).1 (by omega)).trans h2
    have g3 := (hT.block _ (Array.getElem?_eq_some_iff.1 h3).1 (by omega)).trans h3
    have r0 := (cell_of_row _ (z + 1 + 1) 0 _ _ _ g2).trans rfl
    have r1 := (cell_of_row _ (z + 1 + 1) 1 _ _ _ g2).trans rfl
    have r2 := (cell_of_row _ (z + 1 + 1 + 1) 0 _ _ _ g3).trans rfl
    have HP := Lib.hid hPost
    clear hPost hT g2 g3 h2 h3 hTR hwh hno hs hD hNp
    refine wpIn_wide.2 ?_
    go_wp2
    refine ⟨by simp, .inl ⟨_, _, rfl, run_takeDeferred hK, ?_⟩⟩
    refine ⟨.tuple #[.agg #[v2, .int .i64 (nowAt now tick)], .bool true], ?_, HP.out⟩
    simp [results, Try.results15, go_sem, r0, r1, r2]
end Go.Proofs.Ytppefdodhbdlpaa.H
