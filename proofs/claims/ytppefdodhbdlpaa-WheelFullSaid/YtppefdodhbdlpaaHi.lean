import Derived.Test.YtppefdodhbdlpaaHh
namespace Go.Proofs.Ytppefdodhbdlpaa.H
open Go.RowKit Go.Shelf
set_option linter.unusedVariables false
set_option linter.unusedSimpArgs false
variable {w : World} {B g : Nat} {ks : Nat → Option Nat} {vs : Nat → Value} {S : Nat → List (Int × Int)} {now n : Int}
theorem run_clear2 (w : World) (ty : TypeId) (b o c : Nat) (cur : Array Value) (hg : w.heap[b]? = some (.cells cur 54 (0, 0))) (hfit : o + 2 ≤ cur.size) :
    (Builtin.clear_ #[47] ty #[.slice (some ⟨b, o, none⟩) 1 c]).run Try.prog w = .ok (.tuple #[]) (w.setRow b (cur.toList.take o ++ [Value.int .i64 0, Value.int .i64 0] ++ cur.toList.drop (o + 2)).toArray) := by
  obtain ⟨i0, hi0, hz0, hzs, hzb⟩ := info_parts info54
  have hv : ∀ w, (zeroValue 54).run Try.prog w = .ok (.agg #[Value.int .i64 0, Value.int .i64 0]) w := fun w => by simp [zeroValue, typeInfo, hi0, hz0]
  have hzc : (Builtin.zeroCells (Value.agg #[Value.int .i64 0, Value.int .i64 0]).cells 1).toList = [Value.int .i64 0, Value.int .i64 0] := by
    apply List.ext_getElem
    · simp [Builtin.zeroCells, Value.cells]
    · intro i h1 h2
      simp at h2
      match i, h2 with
      | 0, _ => simp [Builtin.zeroCells, Value.cells]
      | 1, _ => simp [Builtin.zeroCells, Value.cells]
  have hst := run_storeCells_at Try.prog b o 54 [Value.int .i64 0, Value.int .i64 0] 0 cur w hg (by simpa using hfit) (by intro u hu; simp at hu; subst hu; rfl)
  simp only [Nat.add_zero] at hst
  simp [Builtin.clear_, run_underlying Try.underlying47, hv, hzc, hst]
theorem step_append_run {P : Program} {ops : Array Oper} {o : Oper} {a : Act} {w : World} {K : Act → World → Prop} {Q : Exit → Act → World → Prop} {E : Prop}
    (hg : o.guard = none) (d x : Operand) (dT sT : TypeId) (hop : o.op = Op.call { callee := Callee.builtin Builtin.append, args := #[d, x], argTypes := #[dT, sT] })
    (v u : Value) (hd : a.eval d = v) (hx : a.eval x = u) {v' : Value} {w' : World} (hr : (Builtin.append_ #[dT, sT] o.type #[v, u]).run P w = .ok v' w') (hK : K (a.put o.dst v') w') :
    if Region.wanted o (yielded ops a.tmps) = true then Oper.wp P o a w K Q else E := by
  have hw : Region.wanted o (yielded ops a.tmps) = true := by simp [Region.wanted, hg]
  rw [if_pos hw]
  unfold Oper.wp
  simp [execOp, hop, resolve, invoke, builtin, hd, hx, hr, Result.andThen]
  exact hK
def d1_ (L : List Value) (xs : List (Int × Int)) (i : Nat) : List Value := L.take (i * 2) ++ flat (xs.drop (i + 1)) ++ L.drop (i * 2 + (flat (xs.drop (i + 1))).length)
theorem d1_len {L : List Value} {xs : List (Int × Int)} {i cap : Nat} (hL : L.length = cap * 2) (hi : i < xs.length) (hc : xs.length ≤ cap) : (d1_ L xs i).length = cap * 2 := by
  unfold d1_; simp [flat_len]; omega
theorem d1_take {L : List Value} {xs : List (Int × Int)} {i cap m : Nat} (hL : L.length = cap * 2) (hi : i < xs.length) (hc : xs.length ≤ cap) (hm : xs.length = m + 1) (hf : L.take (xs.length * 2) = flat xs) :
    (d1_ L xs i).take (m * 2) = flat (xs.eraseIdx i) := by
  have e1 : L.take (i * 2) = flat (xs.take i) := by rw [← flat_take, ← hf, List.take_take, Nat.min_eq_left (by omega)]
  unfold d1_
  rw [e1, List.eraseIdx_eq_take_drop_succ, flat_append]
  have e : (flat (xs.take i) ++ flat (xs.drop (i + 1))).length = m * 2 := by rw [List.length_append, flat_len, flat_len, List.length_take, List.length_drop]; omega
  exact List.take_left' e
def DelPost (w : World) (B b cap m : Nat) (ys : List (Int × Int)) (e : Ending) (w' : World) : Prop := e = .returned (.slice (some ⟨b, 0, none⟩) m cap) ∧ Row w' B (.slice (some ⟨b, 0, none⟩) m cap) ys (some b) ∧ w.grownBy w' (some b)
set_option maxHeartbeats 4000000 in
set_option maxRecDepth 100000 in
theorem delete_c {xs : List (Int × Int)} {b cap m : Nat} (hm : xs.length = m + 1) (h : Row w B (.slice (some ⟨b, 0, none⟩) (m + 1) cap) xs (some b)) {i : Nat} (hi : i < m + 1) :
    Calls Try.prog 41 #[.slice (some ⟨b, 0, none⟩) (m + 1) cap, .int .i64 i, .int .i64 ((i : Int) + 1)] w (DelPost w B b cap m (xs.eraseIdx i)) := by
  obtain ⟨cap2, cs, h1, hB, hb, hsz, hl, hmx, hf, h2⟩ := h
  obtain rfl : cap = cap2 := by simp at h1; exact h1.2
  clear h1
  obtain ⟨i0, hi0, hz0, hzs, hzb⟩ := info_parts info54
  have hLl : cs.toList.length = cap * 2 := by simpa using hsz
  have hix : i < xs.length := by omega
  have hd1l := d1_len hLl hix hl
  have hd1t := d1_take hLl hix hl hm hf
  have hfl : (flat (xs.drop (i + 1))).length = (m - i) * 2 := by rw [flat_len, List.length_drop]; omega
  have hsrc : ∀ j u, (flat (xs.drop (i + 1)))[j]? = some u → w.drew.cell? ((⟨b, (i + 1) * 2, none⟩ : Addr).add j) = some u := fun j u hj => by
    have hjl : j < (m - i) * 2 := by have := (List.getElem?_eq_some_iff.1 hj).1; omega
    rw [Addr.add_mid, cell_of_row w.drew b _ cs 54 (0, 0) hb]
    rw [← flat_drop, ← hf, List.getElem?_drop, List.getElem?_take, if_pos (by omega)] at hj
    simpa using hj
  obtain ⟨W1, hW1⟩ : ∃ W1, W1 = w.drew.setRow b (d1_ cs.toList xs i).toArray := ⟨_, rfl⟩
  have hap : ∀ ty sc, (Builtin.append_ #[47, 47] ty #[.slice (some ⟨b, 0, none⟩) i cap, .slice (some ⟨b, (i + 1) * 2, none⟩) (m - i) sc]).run Try.prog w.drew = .ok (.slice (some ⟨b, 0, none⟩) m cap) W1 := fun ty sc => by
    have := run_append_room w.drew (P := Try.prog) 47 ty 54 i0 Try.underlying47 hi0 b i cap cs hb ⟨b, (i + 1) * 2, none⟩ (m - i) sc (flat (xs.drop (i + 1))) (by rw [hfl, hzs]) hsrc (oneCell_flat _) (by omega) (by rw [hfl, hzs, hsz]; omega)
    rw [hzs, show i + (m - i) = m by omega] at this
    rw [hW1]; exact this
  have hap0 : m = i → ∀ ty sc, (Builtin.append_ #[47, 47] ty #[.slice (some ⟨b, 0, none⟩) i cap, .slice (some ⟨b, 0, none⟩) 0 sc]).run Try.prog w.drew = .ok (.slice (some ⟨b, 0, none⟩) i cap) W1 := fun e ty sc => by
    have e0 : flat (xs.drop (i + 1)) = [] := List.length_eq_zero_iff.1 (by rw [hfl, e]; simp)
    have := run_append_room w.drew (P := Try.prog) 47 ty 54 i0 Try.underlying47 hi0 b i cap cs hb ⟨b, 0, none⟩ 0 sc (flat (xs.drop (i + 1))) (by rw [e0]; simp) (by rw [e0]; simp) (oneCell_flat _) (by omega) (by rw [hfl, hzs, hsz]; omega)
    rw [hzs, Nat.add_zero] at this
    rw [hW1]; exact this
  have hb1 : W1.heap[b]? = some (.cells (d1_ cs.toList xs i).toArray 54 (0, 0)) := by rw [hW1]; exact setRow_heap w.drew b cs _ 54 (0, 0) hb
  obtain ⟨W2, hW2⟩ : ∃ W2, W2 = W1.setRow b (((d1_ cs.toList xs i).toArray.toList.take (m * 2)) ++ [Value.int .i64 0, Value.int .i64 0] ++ (d1_ cs.toList xs i).toArray.toList.drop (m * 2 + 2)).toArray := ⟨_, rfl⟩
  have hcl : ∀ ty c, (Builtin.clear_ #[47] ty #[.slice (some ⟨b, m * 2, none⟩) 1 c]).run Try.prog W1 = .ok (.tuple #[]) W2 := fun ty c => by
    rw [hW2]; exact run_clear2 W1 ty b (m * 2) c _ hb1 (by simp only [List.size_toArray]; rw [hd1l]; omega)
  have HPOST : Aside (DelPost w B b cap m (xs.eraseIdx i) (.returned (.slice (some ⟨b, 0, none⟩) m cap)) W2) := by
    have hyl : (xs.eraseIdx i).length = m := by rw [List.length_eraseIdx, if_pos hix]; omega
    refine ⟨rfl, ⟨cap, _, by rw [hyl], hB, by rw [hW2]; exact setRow_heap W1 b _ _ 54 (0, 0) hb1, ?_, by rw [hyl]; omega, hmx, ?_, by rw [hyl]; omega⟩, ?_⟩
    · simp [hd1l]; omega
    · rw [hyl]
      have e : ((d1_ cs.toList xs i).take (m * 2)).length = m * 2 := by rw [List.length_take, hd1l]; omega
      rw [← hd1t]
      simp only [List.append_assoc]
      exact List.take_left' e
    · rw [hW2, hW1]
      exact ⟨rfl, rfl, rfl, by rw [setRow_size, setRow_size]; exact Nat.le_refl _, fun k hk hn => by
        have hkb : k ≠ b := fun e => hn (by rw [e])
        rw [setRow_other _ b k _ hkb, setRow_other _ b k _ hkb]; rfl⟩
  rw [hm] at hl
  clear hW1 hW2 hb1 hd1l hd1t hfl hsrc hf hb hsz hLl hix
  have htn : ((i : Int) + 1).toNat = i + 1 := by omega
  have hb0 : (0 : Int) ≤ (i : Int) + 1 := by omega
  have hb1 : (i : Int) + 1 ≤ (m : Int) + 1 := by omega
  have hb2 : (m : Int) + 1 ≤ (cap : Int) := by omega
  have hb3 : (i : Int) ≤ (cap : Int) := by omega
  have hb4 : ¬ (cap = i) := by omega
  have hb5 : ¬ (cap = m) := by omega
  have hb6 : ¬ ((i : Int) = (i : Int) + 1) := by omega
  have hb7 : (i : Int) ≤ (m : Int) := by omega
  have hb8 : ¬ (m + 1 = i) := by omega
  by_cases hc : cap = i + 1
  · have hmi : m = i := by omega
    subst hmi
    have HA := hap0 rfl
    clear hap hap0
    subst hc
    have hb9 : (m : Int) ≤ (m : Int) + 1 := by omega
    have HB : Hid _ := Lib.hid HA
    clear HA
    go_enter Try.func41, Try.ntmps41
    go_wp2
    go_region_law (refine step_append_run (by rfl) _ _ 47 47 (by rfl) (.slice (some ⟨b, 0, none⟩) m (m + 1)) (.slice (some ⟨b, 0, none⟩) 0 0) (by simp [Act.eval, Act.put]) (by simp [Act.eval, Act.put]) (HB.out 47 0) ?_)
    go_wp2
    go_ret
    exact HPOST.out
  · have HB : Hid _ := Lib.hid hap
    clear hap hap0
    go_enter Try.func41, Try.ntmps41
    go_wp2
    go_region_law (refine step_append_run (by rfl) _ _ 47 47 (by rfl) (.slice (some ⟨b, 0, none⟩) i cap) (.slice (some ⟨b, (i + 1) * 2, none⟩) (m - i) (cap - (i + 1))) (by simp [Act.eval, Act.put]) (by simp [Act.eval, Act.put]) (HB.out 47 (cap - (i + 1))) ?_)
    go_wp2
    go_ret
    exact HPOST.out
end Go.Proofs.Ytppefdodhbdlpaa.H
