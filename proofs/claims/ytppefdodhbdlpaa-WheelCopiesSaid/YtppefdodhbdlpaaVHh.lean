import Derived.Test.YtppefdodhbdlpaaVHg
import Derived.Deep.RegionLaw
namespace Go.Proofs.Ytppefdodhbdlpaa.H
open Go.RowKit Go.Shelf
set_option linter.unusedVariables false
set_option linter.unusedSimpArgs false
variable {w : World} {B g : Nat} {ks : Nat → Option Nat} {vs : Nat → Value} {S : Nat → List (Int × Int)} {now n : Int}
theorem setRow_below_other {b : Nat} {cs : Array Value} (w : World) : w.grownBy (w.setRow b cs) (some b) :=
  ⟨rfl, rfl, rfl, by simp [World.setRow], fun k hk hn => setRow_other w b k cs (fun e => hn (by rw [e]))⟩
set_option maxHeartbeats 4000000 in
set_option maxRecDepth 100000 in
theorem insert_room {xs : List (Int × Int)} {b cap : Nat} (h : Row w B (.slice (some ⟨b, 0, none⟩) xs.length cap) xs (some b)) {i : Nat} (hi : i < xs.length) (x : Int × Int) (q : Nat)
    (hq : w.heap[q]? = some (.cells #[.int .i64 x.1, .int .i64 x.2] 54 (0, 0))) (hqb : q ≠ b) (hroom : xs.length < cap) (hlen : xs.length < 1048576) :
    Calls Try.prog 33 #[.slice (some ⟨b, 0, none⟩) xs.length cap, .int .i64 i, .slice (some ⟨q, 0, none⟩) 1 1] w (InsPost w B (xs.take i ++ x :: xs.drop i) (some b)) := by
  obtain ⟨cap2, cs, h1, hB, hb, hsz, hl, hm, hf, h2⟩ := h
  obtain rfl : cap = cap2 := by simp at h1; exact h1
  clear h1 hl
  have hLl : cs.toList.length = cap * 2 := by simpa using hsz
  have hc1l := c1_len hLl hi hroom
  have hc2 := c2_eq x hLl hi hroom hf
  have hfl : (flat (xs.drop i)).length = (xs.length - i) * 2 := by rw [flat_len, List.length_drop]
  -- the first copy
  have hcp1 : ∀ ty dc sc, (Builtin.copy_ #[47, 47] ty #[.slice (some ⟨b, (i + 1) * 2, none⟩) (xs.length + 1 - (i + 1)) dc, .slice (some ⟨b, i * 2, none⟩) (xs.length + 1 - i) sc]).run Try.prog w.drew = .ok (goInt ((xs.length - i : Nat) : Int)) (w.drew.setRow b (c1_ cs.toList xs i).toArray) := fun ty dc sc => by
    have hmin : Nat.min (xs.length + 1 - i) (xs.length + 1 - (i + 1)) = xs.length - i := by simp only [Nat.min_def]; split <;> omega
    have := run_copy2 w.drew ty b ((i + 1) * 2) (xs.length + 1 - (i + 1)) dc ⟨b, i * 2, none⟩ (xs.length + 1 - i) sc cs (flat (xs.drop i)) hb (by rw [hfl, hmin])
      (fun j u hj => by
        have hjl : j < (xs.length - i) * 2 := by have := (List.getElem?_eq_some_iff.1 hj).1; omega
        rw [Addr.add_mid, cell_of_row w.drew b _ cs 54 (0, 0) hb]
        rw [← flat_drop, ← hf, List.getElem?_drop, List.getElem?_take, if_pos (by omega)] at hj
        simpa using hj)
      (by rw [hfl, hsz]; omega) (oneCell_flat _)
    rw [hmin] at this
    exact this
  have hb1 : (w.drew.setRow b (c1_ cs.toList xs i).toArray).heap[b]? = some (.cells (c1_ cs.toList xs i).toArray 54 (0, 0)) := setRow_heap w.drew b cs _ 54 (0, 0) hb
  have hq1 : (w.drew.setRow b (c1_ cs.toList xs i).toArray).heap[q]? = some (.cells #[.int .i64 x.1, .int .i64 x.2] 54 (0, 0)) := (setRow_other w.drew b q _ hqb).trans hq
  obtain ⟨W1, hW1⟩ : ∃ W1, W1 = w.drew.setRow b (c1_ cs.toList xs i).toArray := ⟨_, rfl⟩
  rw [← hW1] at hcp1 hb1 hq1
  have hcp2 : ∀ ty dc, (Builtin.copy_ #[47, 47] ty #[.slice (some ⟨b, i * 2, none⟩) (xs.length + 1 - i) dc, .slice (some ⟨q, 0, none⟩) 1 1]).run Try.prog W1 = .ok (goInt ((1 : Nat) : Int)) (W1.setRow b (c2_ cs.toList xs i x).toArray) := fun ty dc => by
    have hmin : Nat.min 1 (xs.length + 1 - i) = 1 := by simp only [Nat.min_def]; split <;> omega
    have := run_copy2 W1 ty b (i * 2) (xs.length + 1 - i) dc ⟨q, 0, none⟩ 1 1 (c1_ cs.toList xs i).toArray (flat [x]) hb1 (by rw [hmin]; rfl)
      (news2 ((cell_of_row _ _ 0 _ _ _ hq1).trans rfl) ((cell_of_row _ _ 1 _ _ _ hq1).trans rfl)) (by simp only [List.size_toArray]; rw [hc1l, flat_len]; simp; omega) (oneCell_flat _)
    rw [hmin] at this
    exact this
  have hov : ∀ lb cb, (callFunc 44 #[.slice (some ⟨q, 0, none⟩) 1 1, .slice (some ⟨b, (i + 1) * 2, none⟩) lb cb]).run Try.prog w = .ok (.value (.bool false)) w := fun lb cb => over_no w q b _ lb cb 1 _ _ hq hb hqb (by rw [hsz]; omega)
  have HPOST : Aside (InsPost w B (xs.take i ++ x :: xs.drop i) (some b) (.returned (.slice (some ⟨b, 0, none⟩) (xs.length + 1) cap)) (W1.setRow b (c2_ cs.toList xs i x).toArray)) := by
    have hfin : (W1.setRow b (c2_ cs.toList xs i x).toArray).heap[b]? = some (.cells (c2_ cs.toList xs i x).toArray 54 (0, 0)) := setRow_heap W1 b _ _ 54 (0, 0) hb1
    have hyl : (xs.take i ++ x :: xs.drop i).length = xs.length + 1 := by simp; omega
    have hc2l : (c2_ cs.toList xs i x).length = cap * 2 := by rw [hc2, List.length_append, flat_len, hyl, List.length_drop, hLl]; omega
    refine ⟨_, some b, rfl, ⟨cap, (c2_ cs.toList xs i x).toArray, by rw [hyl], hB, hfin, by simpa using hc2l, by rw [hyl]; omega, hm, ?_, by rw [hyl]; omega⟩, .inl rfl, ?_⟩
    · rw [hyl, hc2]
      have e : (flat (xs.take i ++ x :: xs.drop i)).length = (xs.length + 1) * 2 := by rw [flat_len, hyl]
      rw [← e]; simp
    · rw [hW1]
      exact ⟨rfl, rfl, rfl, by rw [setRow_size, setRow_size]; exact Nat.le_refl _, fun k hk hn => by
        have hkb : k ≠ b := fun e => hn (by rw [e])
        rw [setRow_other _ b k _ hkb, setRow_other _ b k _ hkb]; rfl⟩
  clear hW1 hb1 hq1 hc1l hc2 hfl hf hb hq hsz hLl
  obtain ⟨n, HN⟩ : ∃ n, Hid (xs.length = n) := ⟨_, Lib.hid rfl⟩
  have HCP1 : Hid (∀ ty dc sc, (Builtin.copy_ #[47, 47] ty #[.slice (some ⟨b, (i + 1) * 2, none⟩) (n - i) dc, .slice (some ⟨b, i * 2, none⟩) (n + 1 - i) sc]).run Try.prog w.drew = .ok (goInt ((n - i : Nat) : Int)) W1) := Lib.hid (fun ty dc sc => by have := hcp1 ty dc sc; rw [HN.out, Nat.add_sub_add_right] at this; exact this)
  have HCP2 : Hid (∀ ty dc, (Builtin.copy_ #[47, 47] ty #[.slice (some ⟨b, i * 2, none⟩) (n + 1 - i) dc, .slice (some ⟨q, 0, none⟩) 1 1]).run Try.prog W1 = .ok (goInt ((1 : Nat) : Int)) (W1.setRow b (c2_ cs.toList xs i x).toArray)) := Lib.hid (by rw [← HN.out]; exact hcp2)
  rw [HN.out] at hi hroom hlen HPOST ⊢
  clear hcp1 hcp2
  have hz2 : ¬ ((i : Int) = (n : Int)) := by omega
  have hw1 : IntKind.i64.wrap ((i : Int) + 1) = (i : Int) + 1 := by rw [IntKind.wrap_i64]; omega
  have hb0 : (0 : Int) ≤ (i : Int) + 1 := by omega
  have htn : ((i : Int) + 1).toNat = i + 1 := by omega
  have hb2 : ¬ (cap = i + 1) := by omega
  have hb3 : (i : Int) ≤ (n : Int) + 1 := by omega
  have hb4 : ¬ (cap = i) := by omega
  have hin : i ≤ n := by omega
  have hin2 : (i : Int) ≤ (n : Int) := by omega
  have hnc : ¬ ((cap : Int) < (n : Int) + 1) := by omega
  have hnc2 : (n : Int) + 1 ≤ (cap : Int) := by omega
  go_enter Try.func33, Try.ntmps33
  go_wp2_with (simp only [hov])
  have HC1 := HCP1.out
  go_region_law (fail)
  go_wp2_with ((with_reducible refine at_dst (N := 82) rfl ?_); refine Mark.mk_ ?_)
  refine Mark.un ?_
  refine wpList_copy_runI _ rfl _ _ 47 47 rfl _ _ rfl rfl (HCP2.out _ _) ?_
  go_wp2
  go_ret
  exact HPOST.out
end Go.Proofs.Ytppefdodhbdlpaa.H
namespace Go.Proofs.Ytppefdodhbdlpaa.H
open Go.RowKit Go.Shelf
set_option linter.unusedVariables false
set_option linter.unusedSimpArgs false
variable {w : World} {B g : Nat} {ks : Nat → Option Nat} {vs : Nat → Value} {S : Nat → List (Int × Int)} {now n : Int}
theorem run_clear2 (w : World) (ty : TypeId) (b o c : Nat) (cur : Array Value) (hg : w.heap[b]? = some (.cells cur 54 (0, 0))) (hfit : o + 2 ≤ cur.size) :
    (Builtin.clear_ #[47] ty #[.slice (some ⟨b, o, none⟩) 1 c]).run Try.prog w = .ok (.tuple #[]) (w.setRow b (cur.toList.take o ++ [Value.int .i64 0, Value.int .i64 0] ++ cur.toList.drop (o + 2)).toArray) := by
  obtain ⟨i0, hi0, hz0, hzs, hzb⟩ := info_parts info54
  have hv : ∀ w, (zeroValue 54).run Try.prog w = .ok (.agg #[Value.int .i64 0, Value.int .i64 0]) w := fun w => by simp [zeroValue, typeInfo, hi0, hz0]
  have hzc : (Builtin.zeroCells (Value.agg #[Value.int .i64 0, Value.int .i64 0]).cells 1).toList = [Value.int .i64 0, Value.int .i64 0] := by
    apply List.ext_getElem
    · simp [Builtin.zeroCells, Value.cells]
    · intro i h1 h2
      simp at h2
      match i, h2 with
      | 0, _ => simp [Builtin.zeroCells, Value.cells]
      | 1, _ => simp [Builtin.zeroCells, Value.cells]
  have hst := run_storeCells_at Try.prog b o 54 [Value.int .i64 0, Value.int .i64 0] 0 cur w hg (by simpa using hfit) (by intro u hu; simp at hu; subst hu; rfl)
  simp only [Nat.add_zero] at hst
  simp [Builtin.clear_, run_underlying Try.underlying47, hv, hzc, hst]
theorem step_append_run {P : Program} {ops : Array Oper} {o : Oper} {a : Act} {w : World} {K : Act → World → Prop} {Q : Exit → Act → World → Prop} {E : Prop}
    (hg : o.guard = none) (d x : Operand) (dT sT : TypeId) (hop : o.op = Op.call { callee := Callee.builtin Builtin.append, args := #[d, x], argTypes := #[dT, sT] })
    (v u : Value) (hd : a.eval d = v) (hx : a.eval x = u) {v' : Value} {w' : World} (hr : (Builtin.append_ #[dT, sT] o.type #[v, u]).run P w = .ok v' w') (hK : K (a.put o.dst v') w') :
    if Region.wanted o (yielded ops a.tmps) = true then Oper.wp P o a w K Q else E := by
  have hw : Region.wanted o (yielded ops a.tmps) = true := by simp [Region.wanted, hg]
  rw [if_pos hw]
  unfold Oper.wp
  simp [execOp, hop, resolve, invoke, builtin, hd, hx, hr, Result.andThen]
  exact hK
def d1_ (L : List Value) (xs : List (Int × Int)) (i : Nat) : List Value := L.take (i * 2) ++ flat (xs.drop (i + 1)) ++ L.drop (i * 2 + (flat (xs.drop (i + 1))).length)
theorem d1_len {L : List Value} {xs : List (Int × Int)} {i cap : Nat} (hL : L.length = cap * 2) (hi : i < xs.length) (hc : xs.length ≤ cap) : (d1_ L xs i).length = cap * 2 := by
  unfold d1_; simp [flat_len]; omega
theorem d1_take {L : List Value} {xs : List (Int × Int)} {i cap m : Nat} (hL : L.length = cap * 2) (hi : i < xs.length) (hc : xs.length ≤ cap) (hm : xs.length = m + 1) (hf : L.take (xs.length * 2) = flat xs) :
    (d1_ L xs i).take (m * 2) = flat (xs.eraseIdx i) := by
  have e1 : L.take (i * 2) = flat (xs.take i) := by rw [← flat_take, ← hf, List.take_take, Nat.min_eq_left (by omega)]
  unfold d1_
  rw [e1, List.eraseIdx_eq_take_drop_succ, flat_append]
  have e : (flat (xs.take i) ++ flat (xs.drop (i + 1))).length = m * 2 := by rw [List.length_append, flat_len, flat_len, List.length_take, List.length_drop]; omega
  exact List.take_left' e
def DelPost (w : World) (B b cap m : Nat) (ys : List (Int × Int)) (e : Ending) (w' : World) : Prop := e = .returned (.slice (some ⟨b, 0, none⟩) m cap) ∧ Row w' B (.slice (some ⟨b, 0, none⟩) m cap) ys (some b) ∧ w.grownBy w' (some b)
set_option maxHeartbeats 4000000 in
set_option maxRecDepth 100000 in
theorem delete_c {xs : List (Int × Int)} {b cap m : Nat} (hm : xs.length = m + 1) (h : Row w B (.slice (some ⟨b, 0, none⟩) (m + 1) cap) xs (some b)) {i : Nat} (hi : i < m + 1) :
    Calls Try.prog 41 #[.slice (some ⟨b, 0, none⟩) (m + 1) cap, .int .i64 i, .int .i64 ((i : Int) + 1)] w (DelPost w B b cap m (xs.eraseIdx i)) := by
  obtain ⟨cap2, cs, h1, hB, hb, hsz, hl, hmx, hf, h2⟩ := h
  obtain rfl : cap = cap2 := by simp at h1; exact h1.2
  clear h1
  obtain ⟨i0, hi0, hz0, hzs, hzb⟩ := info_parts info54
  have hLl : cs.toList.length = cap * 2 := by simpa using hsz
  have hix : i < xs.length := by omega
  have hd1l := d1_len hLl hix hl
  have hd1t := d1_take hLl hix hl hm hf
  have hfl : (flat (xs.drop (i + 1))).length = (m - i) * 2 := by rw [flat_len, List.length_drop]; omega
  have hsrc : ∀ j u, (flat (xs.drop (i + 1)))[j]? = some u → w.drew.cell? ((⟨b, (i + 1) * 2, none⟩ : Addr).add j) = some u := fun j u hj => by
    have hjl : j < (m - i) * 2 := by have := (List.getElem?_eq_some_iff.1 hj).1; omega
    rw [Addr.add_mid, cell_of_row w.drew b _ cs 54 (0, 0) hb]
    rw [← flat_drop, ← hf, List.getElem?_drop, List.getElem?_take, if_pos (by omega)] at hj
    simpa using hj
  obtain ⟨W1, hW1⟩ : ∃ W1, W1 = w.drew.setRow b (d1_ cs.toList xs i).toArray := ⟨_, rfl⟩
  have hap : ∀ ty sc, (Builtin.append_ #[47, 47] ty #[.slice (some ⟨b, 0, none⟩) i cap, .slice (some ⟨b, (i + 1) * 2, none⟩) (m - i) sc]).run Try.prog w.drew = .ok (.slice (some ⟨b, 0, none⟩) m cap) W1 := fun ty sc => by
    have := run_append_room w.drew (P := Try.prog) 47 ty 54 i0 Try.underlying47 hi0 b i cap cs hb ⟨b, (i + 1) * 2, none⟩ (m - i) sc (flat (xs.drop (i + 1))) (by rw [hfl, hzs]) hsrc (oneCell_flat _) (by omega) (by rw [hfl, hzs, hsz]; omega)
    rw [hzs, show i + (m - i) = m by omega] at this
    rw [hW1]; exact this
  have hap0 : m = i → ∀ ty sc, (Builtin.append_ #[47, 47] ty #[.slice (some ⟨b, 0, none⟩) i cap, .slice (some ⟨b, 0, none⟩) 0 sc]).run Try.prog w.drew = .ok (.slice (some ⟨b, 0, none⟩) i cap) W1 := fun e ty sc => by
    have e0 : flat (xs.drop (i + 1)) = [] := List.length_eq_zero_iff.1 (by rw [hfl, e]; simp)
    have := run_append_room w.drew (P := Try.prog) 47 ty 54 i0 Try.underlying47 hi0 b i cap cs hb ⟨b, 0, none⟩ 0 sc (flat (xs.drop (i + 1))) (by rw [e0]; simp) (by rw [e0]; simp) (oneCell_flat _) (by omega) (by rw [hfl, hzs, hsz]; omega)
    rw [hzs, Nat.add_zero] at this
    rw [hW1]; exact this
  have hb1 : W1.heap[b]? = some (.cells (d1_ cs.toList xs i).toArray 54 (0, 0)) := by rw [hW1]; exact setRow_heap w.drew b cs _ 54 (0, 0) hb
  obtain ⟨W2, hW2⟩ : ∃ W2, W2 = W1.setRow b (((d1_ cs.toList xs i).toArray.toList.take (m * 2)) ++ [Value.int .i64 0, Value.int .i64 0] ++ (d1_ cs.toList xs i).toArray.toList.drop (m * 2 + 2)).toArray := ⟨_, rfl⟩
  have hcl : ∀ ty c, (Builtin.clear_ #[47] ty #[.slice (some ⟨b, m * 2, none⟩) 1 c]).run Try.prog W1 = .ok (.tuple #[]) W2 := fun ty c => by
    rw [hW2]; exact run_clear2 W1 ty b (m * 2) c _ hb1 (by simp only [List.size_toArray]; rw [hd1l]; omega)
  have HPOST : Aside (DelPost w B b cap m (xs.eraseIdx i) (.returned (.slice (some ⟨b, 0, none⟩) m cap)) W2) := by
    have hyl : (xs.eraseIdx i).length = m := by rw [List.length_eraseIdx, if_pos hix]; omega
    refine ⟨rfl, ⟨cap, _, by rw [hyl], hB, by rw [hW2]; exact setRow_heap W1 b _ _ 54 (0, 0) hb1, ?_, by rw [hyl]; omega, hmx, ?_, by rw [hyl]; omega⟩, ?_⟩
    · simp [hd1l]; omega
    · rw [hyl]
      have e : ((d1_ cs.toList xs i).take (m * 2)).length = m * 2 := by rw [List.length_take, hd1l]; omega
      rw [← hd1t]
      simp only [List.append_assoc]
      exact List.take_left' e
    · rw [hW2, hW1]
      exact ⟨rfl, rfl, rfl, by rw [setRow_size, setRow_size]; exact Nat.le_refl _, fun k hk hn => by
        have hkb : k ≠ b := fun e => hn (by rw [e])
        rw [setRow_other _ b k _ hkb, setRow_other _ b k _ hkb]; rfl⟩
  rw [hm] at hl
  clear hW1 hW2 hb1 hd1l hd1t hfl hsrc hf hb hsz hLl hix
  have htn : ((i : Int) + 1).toNat = i + 1 := by omega
  have hb0 : (0 : Int) ≤ (i : Int) + 1 := by omega
  have hb1 : (i : Int) + 1 ≤ (m : Int) + 1 := by omega
  have hb2 : (m : Int) + 1 ≤ (cap : Int) := by omega
  have hb3 : (i : Int) ≤ (cap : Int) := by omega
  have hb4 : ¬ (cap = i) := by omega
  have hb5 : ¬ (cap = m) := by omega
  have hb6 : ¬ ((i : Int) = (i : Int) + 1) := by omega
  have hb7 : (i : Int) ≤ (m : Int) := by omega
  have hb8 : ¬ (m + 1 = i) := by omega
  by_cases hc : cap = i + 1
  · have hmi : m = i := by omega
    subst hmi
    have HA := hap0 rfl
    clear hap hap0
    subst hc
    have hb9 : (m : Int) ≤ (m : Int) + 1 := by omega
    have HB : Hid _ := Lib.hid HA
    clear HA
    go_enter Try.func41, Try.ntmps41
    go_wp2
    go_region_law (refine step_append_run (by rfl) _ _ 47 47 (by rfl) (.slice (some ⟨b, 0, none⟩) m (m + 1)) (.slice (some ⟨b, 0, none⟩) 0 0) (by simp [Act.eval, Act.put]) (by simp [Act.eval, Act.put]) (HB.out 47 0) ?_)
    go_wp2
    go_ret
    exact HPOST.out
  · have HB : Hid _ := Lib.hid hap
    clear hap hap0
    go_enter Try.func41, Try.ntmps41
    go_wp2
    go_region_law (refine step_append_run (by rfl) _ _ 47 47 (by rfl) (.slice (some ⟨b, 0, none⟩) i cap) (.slice (some ⟨b, (i + 1) * 2, none⟩) (m - i) (cap - (i + 1))) (by simp [Act.eval, Act.put]) (by simp [Act.eval, Act.put]) (HB.out 47 (cap - (i + 1))) ?_)
    go_wp2
    go_ret
    exact HPOST.out
end Go.Proofs.Ytppefdodhbdlpaa.H
namespace Go.Proofs.Ytppefdodhbdlpaa.H
open Go.RowKit Go.Shelf
set_option linter.unusedVariables false
set_option linter.unusedSimpArgs false
variable {w : World} {B g : Nat} {ks : Nat → Option Nat} {vs : Nat → Value} {S : Nat → List (Int × Int)} {now n : Int}
set_option maxHeartbeats 4000000 in
set_option maxRecDepth 100000 in
theorem stop_no (h : IsW w B g ks vs S now n) (id : Int) (hf : fnd S id = (0, 0, false)) :
    Calls Try.prog 18 #[.pointer (some ⟨g, 0, none⟩), .int .i64 id] w fun e w' => e = .returned (.int .i64 14) ∧ Below w.heap.size w w' := by
  have hcall := find_c h id
  rw [hf] at hcall
  dsimp only at hcall
  clear h hf
  go_enter Try.func18, Try.ntmps18
  go_wp2_with (go_at_call 26; refine hcall.mono ?_; rintro e w' ⟨rfl, hb'⟩)
  go_ret
  exact ⟨rfl, hb'⟩
set_option maxHeartbeats 4000000 in
set_option maxRecDepth 100000 in
theorem new_c (w : World) : Calls Try.prog 7 #[] w fun e w' => e = .returned (.pointer (some ⟨w.heap.size, 0, none⟩)) ∧ w' = w.alloc (.cells (wcells (fun _ => .slice none 0 0) 0 0).toArray 50) := by
  go_enter Try.func7, Try.ntmps7
  go_wp2
  go_ret
  exact ⟨rfl, rfl⟩
end Go.Proofs.Ytppefdodhbdlpaa.H
namespace Go.Proofs.Ytppefdodhbdlpaa.H
open Go.RowKit Go.Shelf
set_option linter.unusedVariables false
set_option linter.unusedSimpArgs false
variable {w : World} {B g : Nat} {ks : Nat → Option Nat} {vs : Nat → Value} {S : Nat → List (Int × Int)} {now n : Int}
/-- what may have turned: the blocks of T, and new ones -/
structure Turned (w w' : World) (T : Nat → Prop) : Prop where
  os : w'.os = w.os
  tape : w'.tape = w.tape
  output : w'.output = w.output
  size : w.heap.size ≤ w'.heap.size
  block : ∀ k, k < w.heap.size → ¬ T k → w'.heap[k]? = w.heap[k]?
theorem Turned.trans {w w1 w2 : World} {T T2 : Nat → Prop} (h : Turned w w1 T) (h2 : Turned w1 w2 T2) (hT : ∀ k, T2 k → T k ∨ w.heap.size ≤ k) : Turned w w2 T :=
  ⟨h2.os.trans h.os, h2.tape.trans h.tape, h2.output.trans h.output, Nat.le_trans h.size h2.size, fun k hk hn =>
    (h2.block k (Nat.lt_of_lt_of_le hk h.size) (fun h3 => (hT k h3).elim hn (fun h4 => by omega))).trans (h.block k hk hn)⟩
theorem Turned.of_below {w w' : World} {T : Nat → Prop} (h : Below w.heap.size w w') : Turned w w' T := ⟨h.os, h.tape, h.output, h.size, fun k hk _ => h.block k hk⟩
theorem Turned.of_grown {w w' : World} {b : Option Nat} (h : w.grownBy w' b) : Turned w w' (fun k => some k = b) := ⟨h.os, h.tape, h.output, h.size, fun k hk hn => h.block k hk hn⟩
theorem Turned.mono {w w' : World} {T T2 : Nat → Prop} (h : Turned w w' T) (hT : ∀ k, T k → T2 k) : Turned w w' T2 := ⟨h.os, h.tape, h.output, h.size, fun k hk hn => h.block k hk (fun h2 => hn (hT k h2))⟩
theorem Turned.below {w w' : World} {T : Nat → Prop} {B : Nat} (h : Turned w w' T) (hT : ∀ k, T k → B ≤ k) (hB : B ≤ w.heap.size) : Below B w w' := ⟨h.os, h.tape, h.output, h.size, fun k hk => h.block k (by omega) (fun h2 => by have := hT k h2; omega)⟩
theorem Row.turned {w w' : World} {v : Value} {xs : List (Int × Int)} {k : Option Nat} {T : Nat → Prop} (h : Row w B v xs k) (ht : Turned w w' T) (hk : ∀ b, k = some b → ¬ T b) : Row w' B v xs k := by
  cases k with
  | none => exact h
  | some b =>
    obtain ⟨cap, cs, rfl, hB, hb', r⟩ := h
    exact ⟨cap, cs, rfl, hB, (ht.block b (Array.getElem?_eq_some_iff.1 hb').1 (hk b rfl)).trans hb', r⟩
theorem setCell_heap {w : World} {b i : Nat} {cs : Array Value} {t : TypeId} {u : Value} (h : w.heap[b]? = some (.cells cs t (0, 0))) : (w.setCell ⟨b, i, none⟩ u).heap[b]? = some (.cells (cs.setIfInBounds i u) t (0, 0)) := by
  rw [setCell_eq_setRow w b i cs t (0, 0) u h]; exact setRow_heap w b cs _ t (0, 0) h
theorem wcells_set (vs : Nat → Value) (now n : Int) {i : Nat} (hi : i < 64) (u : Value) : (wcells vs now n).set i u = wcells (fun j => if j = i then u else vs j) now n := by
  unfold wcells
  rw [List.set_append_left _ _ (by simpa using hi)]
  congr 1
  apply List.ext_getElem
  · simp
  · intro j h1 h2
    simp at h1 h2 ⊢
    rw [List.getElem_set]
    by_cases e : i = j
    · simp [e]
    · simp [e, Ne.symm e]
theorem wcells_set_n (vs : Nat → Value) (now n m : Int) : (wcells vs now n).set 65 (.int .i64 m) = wcells vs now m := by
  unfold wcells
  rw [List.set_append_right _ _ (by simp)]
  simp
end Go.Proofs.Ytppefdodhbdlpaa.H
