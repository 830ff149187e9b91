import Derived.Test.YtppefdodhbdlpaaProg
import Derived.Below
import Derived.Deep.MidRow
import Derived.OwnWalk
import Derived.Laws.Rows
import Derived.Tactics
import Derived.WalkKit
import Derived.KernelRfl
import Derived.Deep.LoopGhost
import Derived.Deep.QuietTactic
import Derived.BigQuiet
import Derived.IntWalk
import Derived.Lib.Hide
import Derived.Shelf.Abstract
import Derived.Shelf.RegionOpen
import Derived.Deep.OwnRows
import Derived.OwnWalkIn
import Derived.ProofKit
namespace Go.Proofs.Ytppefdodhbdlpaa.H
open Go.RowKit
set_option linter.unusedVariables false
set_option linter.unusedSimpArgs false
/-- what a timer's cells are -/
def flat : List (Int × Int) → List Value
  | [] => []
  | x :: xs => .int .i64 x.1 :: .int .i64 x.2 :: flat xs
/-- a row of timers: its value, what it holds, its block -/
def Row (w : World) (B : Nat) (v : Value) (xs : List (Int × Int)) : Option Nat → Prop
  | none => v = .slice none 0 0 ∧ xs = []
  | some b => ∃ cap cs, v = .slice (some ⟨b, 0, none⟩) xs.length cap ∧ B ≤ b ∧ w.heap[b]? = some (.cells cs 54 (0, 0)) ∧ cs.size = cap * 2 ∧ xs.length ≤ cap ∧ cap ≤ maxLen ∧ cs.toList.take (xs.length * 2) = flat xs ∧ xs.length ≤ 1048576
def wcells (vs : Nat → Value) (now n : Int) : List Value := (List.range 64).map vs ++ [.int .i64 now, .int .i64 n]
structure IsW (w : World) (B g : Nat) (ks : Nat → Option Nat) (vs : Nat → Value) (S : Nat → List (Int × Int)) (now n : Int) : Prop where
  hg : w.heap[g]? = some (.cells (wcells vs now n).toArray 50 (0, 0))
  hB : B ≤ g
  rows : ∀ i, i < 64 → Row w B (vs i) (S i) (ks i)
  ne : ∀ i j b, i < 64 → j < 64 → i ≠ j → ks i = some b → ks j ≠ some b
theorem wcells_at (vs : Nat → Value) (now n : Int) {i : Nat} (h : i < 64) : (wcells vs now n)[i]? = some (vs i) := by
  unfold wcells; rw [List.getElem?_append_left (by simpa using h)]; simp [h]
theorem wcells_now (vs : Nat → Value) (now n : Int) : (wcells vs now n)[64]? = some (.int .i64 now) := by
  unfold wcells; rw [List.getElem?_append_right (by simp)]; simp
theorem wcells_n (vs : Nat → Value) (now n : Int) : (wcells vs now n)[65]? = some (.int .i64 n) := by
  unfold wcells; rw [List.getElem?_append_right (by simp)]; simp
variable {w : World} {B g : Nat} {ks : Nat → Option Nat} {vs : Nat → Value} {S : Nat → List (Int × Int)} {now n : Int}
theorem IsW.cell (h : IsW w B g ks vs S now n) (j : Nat) : w.cell? ⟨g, j, none⟩ = (wcells vs now n)[j]? := by
  rw [cell_of_row w g j _ _ _ h.hg]; simp
theorem IsW.c (h : IsW w B g ks vs S now n) {i : Nat} (hi : i < 64) : w.cell? ⟨g, i, none⟩ = some (vs i) := (h.cell i).trans (wcells_at vs now n hi)
theorem IsW.cnow (h : IsW w B g ks vs S now n) : w.cell? ⟨g, 64, none⟩ = some (.int .i64 now) := (h.cell 64).trans (wcells_now vs now n)
theorem IsW.cn (h : IsW w B g ks vs S now n) : w.cell? ⟨g, 65, none⟩ = some (.int .i64 n) := (h.cell 65).trans (wcells_n vs now n)
set_option maxRecDepth 100000 in
theorem now_c (h : IsW w B g ks vs S now n) : Calls Try.prog 19 #[.pointer (some ⟨g, 0, none⟩)] w fun e w' => e = .returned (.int .i64 now) ∧ w = w' := by
  have hc := h.cnow
  clear h
  go_enter Try.func19, Try.ntmps19
  go_wp2
  go_ret
  exact ⟨rfl, rfl⟩
set_option maxRecDepth 100000 in
theorem len_c (h : IsW w B g ks vs S now n) : Calls Try.prog 10 #[.pointer (some ⟨g, 0, none⟩)] w fun e w' => e = .returned (.int .i64 n) ∧ w = w' := by
  have hc := h.cn
  clear h
  go_enter Try.func10, Try.ntmps10
  go_wp2
  go_ret
  exact ⟨rfl, rfl⟩
set_option maxRecDepth 100000 in
theorem find1_c (w : World) (q : Nat) (id a b : Int) (hq : w.cell? ⟨q, 0, none⟩ = some (.int .i64 id)) (hs : q < w.heap.size) :
    Calls Try.prog 40 #[.agg #[.int .i64 a, .int .i64 b], .pointer (some ⟨q, 0, none⟩)] w fun e w' => e = .returned (.bool (a == id)) ∧ Below w.heap.size w w' := by
  go_enter Try.func40, Try.ntmps40
  go_wp2
  go_ret
  exact ⟨rfl, (Below.refl _ _).alloc (Nat.le_refl _) _⟩
theorem flat_len : ∀ xs, (flat xs).length = xs.length * 2
  | [] => rfl
  | x :: xs => by simp [flat, flat_len xs]; omega
theorem flat_at : ∀ (xs : List (Int × Int)) (j : Nat) (h : j < xs.length), (flat xs)[j * 2]? = some (.int .i64 xs[j].1) ∧ (flat xs)[j * 2 + 1]? = some (.int .i64 xs[j].2)
  | x :: xs, 0, _ => ⟨rfl, rfl⟩
  | x :: xs, j + 1, h => by
    have := flat_at xs j (by simpa using h)
    rw [show (j + 1) * 2 = j * 2 + 1 + 1 by omega]
    exact this
theorem Row.at_ {w : World} {B : Nat} {v : Value} {xs : List (Int × Int)} {b : Nat} (h : Row w B v xs (some b)) {j : Nat} (hj : j < xs.length) :
    w.cell? ⟨b, j * 2, none⟩ = some (.int .i64 xs[j].1) ∧ w.cell? ⟨b, j * 2 + 1, none⟩ = some (.int .i64 xs[j].2) := by
  obtain ⟨cap, cs, rfl, hB, hb, hs, hl, hm, hf, h1⟩ := h
  have e := flat_at xs j hj
  rw [← hf] at e
  have g (i : Nat) (hi : i < xs.length * 2) : w.cell? ⟨b, i, none⟩ = (cs.toList.take (xs.length * 2))[i]? := by
    rw [cell_of_row w b i _ _ _ hb, List.getElem?_take, if_pos hi]; simp
  exact ⟨(g _ (by omega)).trans e.1, (g _ (by omega)).trans e.2⟩
theorem Row.below {w w' : World} {B : Nat} {v : Value} {xs : List (Int × Int)} {k : Option Nat} (h : Row w B v xs k) (hb : Below w.heap.size w w') : Row w' B v xs k := by
  cases k with
  | none => exact h
  | some b =>
    obtain ⟨cap, cs, rfl, hB, hb', r⟩ := h
    exact ⟨cap, cs, rfl, hB, (hb.block b (Array.getElem?_eq_some_iff.1 hb').1).trans hb', r⟩
theorem Row.lt {w : World} {B : Nat} {v : Value} {xs : List (Int × Int)} {b : Nat} (h : Row w B v xs (some b)) : b < w.heap.size := by
  obtain ⟨cap, cs, rfl, hB, hb', r⟩ := h
  exact (Array.getElem?_eq_some_iff.1 hb').1
def idx (id : Int) (xs : List (Int × Int)) : Int := match xs.findIdx? (fun t => t.1 == id) with | some i => i | none => -1
theorem idx_hit {id : Int} {xs : List (Int × Int)} {k : Nat} (hk : k < xs.length) (h : (xs[k].1 == id) = true) (hn : ∀ j (hj : j < k), (xs[j].1 == id) = false) : idx id xs = k := by
  have : xs.findIdx? (fun t => t.1 == id) = some k := by
    rw [List.findIdx?_eq_some_iff_getElem]
    exact ⟨hk, h, fun j hj => by simp [hn j hj]⟩
  unfold idx; rw [this]
theorem idx_miss {id : Int} {xs : List (Int × Int)} (hn : ∀ j (hj : j < xs.length), (xs[j].1 == id) = false) : idx id xs = -1 := by
  have : xs.findIdx? (fun t => t.1 == id) = none := by
    rw [List.findIdx?_eq_none_iff]
    intro x hx
    obtain ⟨j, hj, rfl⟩ := List.getElem_of_mem hx
    exact hn j hj
  unfold idx; rw [this]
set_option maxHeartbeats 2000000 in
set_option maxRecDepth 100000 in
theorem index_c {v : Value} {xs : List (Int × Int)} {k : Option Nat} (h : Row w B v xs k) (q : Nat) (id : Int) (hq : w.cell? ⟨q, 0, none⟩ = some (.int .i64 id)) (hs : q < w.heap.size) :
    Calls Try.prog 39 #[v, .func (.func 40) #[] #[.pointer (some ⟨q, 0, none⟩)]] w fun e w' => e = .returned (.int .i64 (idx id xs)) ∧ Below w.heap.size w w' := by
  cases k with
  | none =>
    obtain ⟨rfl, rfl⟩ := h
    go_enter Try.func39, Try.ntmps39
    go_wp2
    go_loopg [5, 8] 0 (fun gg _ s8 wr => s8 = .int .i64 0 ∧ wr = w)
    case atStart => exact ⟨rfl, rfl⟩
    case round =>
      obtain ⟨rfl, rfl⟩ := hrel
      go_wp2
      go_ret
      exact ⟨rfl, Below.refl _ _⟩
  | some b =>
    have HAT : Aside (∀ j (hj : j < xs.length), w.cell? ⟨b, j * 2, none⟩ = some (.int .i64 xs[j].1) ∧ w.cell? ⟨b, j * 2 + 1, none⟩ = some (.int .i64 xs[j].2)) := fun j hj => h.at_ hj
    have hbl := h.lt
    obtain ⟨cap, cs, rfl, hB, hb, hsz, hl, hm, hf, h1⟩ := h
    clear hb hf hsz
    obtain ⟨n, HN⟩ : ∃ n, Hid (xs.length = n) := ⟨_, Lib.hid rfl⟩
    rw [HN.out] at hl h1 ⊢
    have HQ : Hid (w.cell? ⟨q, 0, none⟩ = some (.int .i64 id)) := Lib.hid hq
    clear hq
    go_enter Try.func39, Try.ntmps39
    go_wp2
    go_loopg [5, 8] n (fun gg _ s8 wr => ∃ kk : Nat, kk ≤ n ∧ n - kk ≤ gg ∧ s8 = .int .i64 kk ∧ Aside (Below w.heap.size w wr) ∧ Aside (∀ j (hj : j < kk) (hj2 : j < xs.length), (xs[j].1 == id) = false))
    case atStart => exact ⟨0, Nat.zero_le _, by omega, rfl, Below.refl _ w, fun j hj => absurd hj (Nat.not_lt_zero _)⟩
    case round =>
      obtain ⟨kk, hkk, hgg, rfl, BW, A⟩ := hrel
      by_cases hlt : kk < n
      · have hltz : (kk : Int) < (n : Int) := by omega
        have hx : kk < xs.length := by rw [HN.out]; exact hlt
        obtain ⟨l0, l1⟩ := HAT.out kk hx
        have c0 : wr.cell? ⟨b, kk * 2, none⟩ = some (.int .i64 xs[kk].1) := (BW.out.cell (p := ⟨b, _, none⟩) hbl).trans l0
        have c1 : wr.cell? ⟨b, kk * 2 + 1, none⟩ = some (.int .i64 xs[kk].2) := (BW.out.cell (p := ⟨b, _, none⟩) hbl).trans l1
        clear l0 l1
        have hcall := find1_c wr q id xs[kk].1 xs[kk].2 ((BW.out.cell (p := ⟨q, 0, none⟩) hs).trans HQ.out) (Nat.lt_of_lt_of_le hs BW.out.size)
        obtain ⟨x1, hx1⟩ : ∃ x1, Hid (xs[kk].1 = x1) := ⟨_, Lib.hid rfl⟩
        obtain ⟨x2, hx2⟩ : ∃ x2, Hid (xs[kk].2 = x2) := ⟨_, Lib.hid rfl⟩
        rw [hx1.out] at c0 hcall
        rw [hx2.out] at c1 hcall
        cases hq : (x1 == id) with
        | true =>
          rw [hq] at hcall
          have HE : Hid ((x1 == id) = true) := Lib.hid hq
          clear hq
          go_wp2_with fail
          refine hcall.mono ?_
          rintro e w' ⟨rfl, hb'⟩
          go_wp2
          go_ret
          exact ⟨by rw [idx_hit hx (by rw [hx1.out]; exact HE.out) (fun j hj => A.out j hj (by omega))]; rfl, BW.out.trans (hb'.mono BW.out.size)⟩
        | false =>
          rw [hq] at hcall
          have HE : Hid ((x1 == id) = false) := Lib.hid hq
          clear hq
          go_wp2_with fail
          refine hcall.mono ?_
          rintro e w' ⟨rfl, hb'⟩
          go_wp2
          go_roundg (n - (kk + 1))
          case measure => omega
          case rel =>
            refine ⟨kk + 1, by omega, by omega, by go_num, BW.out.trans (hb'.mono BW.out.size), (show Aside _ from fun j hj hj2 => ?_)⟩
            by_cases e : j = kk
            · subst e; rw [hx1.out]; exact HE.out
            · exact A.out j (by omega) hj2
      · have hltz : ¬ (kk : Int) < (n : Int) := by omega
        have hkn : Hid (kk = n) := Lib.hid (by omega)
        go_wp2
        go_ret
        have hm := idx_miss (id := id) (xs := xs) (fun j hj => A.out j (by rw [hkn.out, ← HN.out]; exact hj) hj)
        exact ⟨by rw [hm]; rfl, BW.out⟩
theorem size47 (w : World) : (Go.sizeOf 47).run Try.prog w = .ok 1 w := by
  have hi : (Try.prog.info? 47).map (·.size) = some 1 := by kernel_rfl
  cases hq : Try.prog.info? 47 with
  | none => simp [hq] at hi
  | some i =>
    have hs : i.size = 1 := by simpa [hq] using hi
    simp [Go.sizeOf, typeInfo, hq, hs]
theorem run_index64 (A : Array Value) (k : Nat) (hk : k < 64) (v : Value) (hv : A[k]? = some v) (W : World) : (Instr.index 48 (.agg A) (.int .i64 k)).run Try.prog W = .ok v W := by
  have h1 : ∀ w, (isAgg 47).run Try.prog w = .ok false w := fun w => by unfold isAgg; rw [Sem.run_bind, run_underlying Try.underlying47]; rfl
  have h2 := size47
  have hk2 : (k : Int) < 64 := by omega
  simp [Instr.index, run_underlying Try.underlying48, asIntOf, part, h1, h2, hk, hk2, hv, go_sem]
theorem run_indexAt64 (g : Nat) (k : Nat) (hk : k < 64) (W : World) : (Instr.indexAt 48 (.pointer (some ⟨g, 0, none⟩)) (.int .i64 k)).run Try.prog W = .ok (.pointer (some ⟨g, k, none⟩)) W := by
  have h2 := size47
  have hk2 : (k : Int) < 64 := by omega
  simp [Instr.indexAt, Instr.sureAddr, run_underlying Try.underlying48, asIntOf, h2, hk, hk2, go_sem, Addr.add_mid]
def fndFrom (S : Nat → List (Int × Int)) (id : Int) : Nat → Nat → Int × Int × Bool
  | 0, _ => (0, 0, false)
  | d + 1, i => if 0 ≤ idx id (S i) then (i, idx id (S i), true) else fndFrom S id d (i + 1)
def fnd (S : Nat → List (Int × Int)) (id : Int) : Int × Int × Bool := fndFrom S id 64 0
section
variable {P : Program} {ops : Array Oper} {rest : List Oper} {o : Oper} {a : Act} {Q : Exit → Act → World → Prop} {W : World}
theorem at_dst {N : Tmp} (_hN : o.dst = some N) (h : wpList P ops Q (o :: rest) a W) : wpList P ops Q (o :: rest) a W := h
theorem at_store {t : TypeId} {p : Tmp} {v : Operand} (_ho : o.op = .store t (.tmp p) v) (h : wpList P ops Q (o :: rest) a W) : wpList P ops Q (o :: rest) a W := h
end
theorem cell_new (W : World) (v : Value) (t : TypeId) : (W.alloc (.cells #[v] t)).cell? ⟨W.heap.size, 0, none⟩ = some v ∧ (W.alloc (.cells #[v] t)).frozen? ⟨W.heap.size, 0, none⟩ = false := by
  have hb : (W.alloc (.cells #[v] t)).heap[W.heap.size]? = some (.cells #[v] t (0, 0)) := heap_alloc_new W _
  exact ⟨(cell_of_row _ _ 0 _ _ _ hb).trans rfl, by simp only [World.frozen?, hb]; rfl⟩
theorem IsW.range (h : IsW w B g ks vs S now n) {W : World} (hb : Below w.heap.size w W) : W.rangeAt g 0 ((List.range 64).map vs) := by
  intro j v hj
  have hlt : j < 64 := by
    have := (List.getElem?_eq_some_iff.1 hj).1
    simpa using this
  have e : v = vs j := by simpa [hlt] using hj.symm
  have hg := (Array.getElem?_eq_some_iff.1 h.hg).1
  rw [Nat.zero_add, hb.cell (p := ⟨g, j, none⟩) hg, h.c hlt, e]
set_option maxHeartbeats 2000000 in
set_option maxRecDepth 100000 in
theorem find_c (h : IsW w B g ks vs S now n) (id : Int) :
    Calls Try.prog 26 #[.pointer (some ⟨g, 0, none⟩), .int .i64 id] w fun e w' => e = .returned (.tuple #[.int .i64 (fnd S id).1, .int .i64 (fnd S id).2.1, .bool (fnd S id).2.2]) ∧ Below w.heap.size w w' := by
  have hB1 : Below w.heap.size w (w.alloc (.cells #[.int .i64 id] 3)) := (Below.refl _ _).alloc (Nat.le_refl _) _
  have hl : Hid (World.rangeAt (w.alloc (.cells #[.int .i64 id] 3)) g 0 ((List.range 64).map vs)) := Lib.hid (h.range hB1)
  obtain ⟨A, hA⟩ : ∃ A, Hid (((List.range 64).map vs).toArray = A) := ⟨_, Lib.hid rfl⟩
  have hAt : Hid (∀ k, k < 64 → A[k]? = some (vs k)) := Lib.hid (fun k hk => by rw [← hA.out]; simp [hk])
  have HR : Aside (∀ i, i < 64 → Row w B (vs i) (S i) (ks i)) := h.rows
  have hq0 : Hid ((w.alloc (.cells #[.int .i64 id] 3)).cell? ⟨w.heap.size, 0, none⟩ = some (.int .i64 id)) := Lib.hid (cell_new _ _ _).1
  have HB1 : Aside (Below w.heap.size w (w.alloc (.cells #[.int .i64 id] 3))) := hB1
  clear hB1 h
  go_enter Try.func26, Try.ntmps26
  go_wp2_with ((with_reducible refine at_dst (N := 13) rfl ?_); refine wpList_load_mid rfl 48 _ rfl g 0 rfl _ _ hl.out Try.underlying48 rfl (by kernel_rfl) ?_; rw [hA.out])
  go_loopg [7, 8, 9, 14] 64 (fun gg _ _ _ s14 wr => ∃ kk : Nat, kk ≤ 64 ∧ 64 - kk ≤ gg ∧ s14 = .int .i64 kk ∧ Aside (Below (w.alloc (.cells #[.int .i64 id] 3)).heap.size (w.alloc (.cells #[.int .i64 id] 3)) wr) ∧ Aside (fnd S id = fndFrom S id (64 - kk) kk))
  case atStart => exact ⟨0, by omega, by omega, rfl, Below.refl _ _, rfl⟩
  case round =>
    obtain ⟨kk, hkk, hgg, rfl, BW, E⟩ := hrel
    by_cases hlt : kk < 64
    · have hltz : (kk : Int) < 64 := by omega
      have hB0 : Below w.heap.size w wr := HB1.out.trans (BW.out.mono (by simp))
      have hr : Row wr B (vs kk) (S kk) (ks kk) := (HR.out kk hlt).below hB0
      have hsz : w.heap.size < wr.heap.size := by have := BW.out.size; simp at this; omega
      have hcall := index_c hr w.heap.size id ((BW.out.cell (p := ⟨w.heap.size, 0, none⟩) (by simp)).trans hq0.out) hsz
      have hix := run_index64 A kk hlt (vs kk) (hAt.out kk hlt)
      have hf : fndFrom S id (64 - kk) kk = if 0 ≤ idx id (S kk) then ((kk : Int), idx id (S kk), true) else fndFrom S id (64 - (kk + 1)) (kk + 1) := by
        rw [show 64 - kk = (64 - (kk + 1)) + 1 by omega]; rfl
      have HF : Hid (fndFrom S id (64 - kk) kk = if 0 ≤ idx id (S kk) then ((kk : Int), idx id (S kk), true) else fndFrom S id (64 - (kk + 1)) (kk + 1)) := Lib.hid hf
      clear hf hr hB0
      obtain ⟨x, hx⟩ : ∃ x, Hid (idx id (S kk) = x) := ⟨_, Lib.hid rfl⟩
      rw [hx.out] at hcall
      obtain ⟨vk, hvk⟩ : ∃ vk, Hid (vs kk = vk) := ⟨_, Lib.hid rfl⟩
      rw [hvk.out] at hcall hix
      by_cases hc : 0 ≤ x
      · go_wp2_with fail
        refine hcall.mono ?_
        rintro e w' ⟨rfl, hb'⟩
        go_wp2
        go_ret3
        have hE : fnd S id = ((kk : Int), x, true) := by rw [E.out, HF.out, if_pos (by rw [hx.out]; exact hc), hx.out]
        exact ⟨by rw [hE]; rfl, HB1.out.trans ((BW.out.trans (hb'.mono BW.out.size)).mono (by simp))⟩
      · have hc2 : x < 0 := by omega
        go_wp2_with fail
        refine hcall.mono ?_
        rintro e w' ⟨rfl, hb'⟩
        go_wp2
        go_roundg (64 - (kk + 1))
        case measure => omega
        case rel =>
          refine ⟨kk + 1, by omega, by omega, by go_num, BW.out.trans (hb'.mono BW.out.size), ?_⟩
          show fnd S id = _
          rw [E.out, HF.out, if_neg (by rw [hx.out]; omega)]
    · have hltz : ¬ (kk : Int) < 64 := by omega
      have hkn : Hid (kk = 64) := Lib.hid (by omega)
      go_wp2
      go_ret3
      have hE : fnd S id = (0, 0, false) := by rw [E.out, hkn.out]; rfl
      exact ⟨by rw [hE]; rfl, HB1.out.trans (BW.out.mono (by simp))⟩
end Go.Proofs.Ytppefdodhbdlpaa.H
namespace Go.Proofs.Ytppefdodhbdlpaa.H
open Go.RowKit
set_option linter.unusedVariables false
set_option linter.unusedSimpArgs false
variable {w : World} {B g : Nat} {ks : Nat → Option Nat} {vs : Nat → Value} {S : Nat → List (Int × Int)} {now n : Int}
theorem idx_cases (id : Int) (xs : List (Int × Int)) : (∃ k, ∃ hk : k < xs.length, xs[k].1 = id ∧ idx id xs = k) ∨ (idx id xs = -1 ∧ ∀ t ∈ xs, t.1 ≠ id) := by
  unfold idx
  cases h : xs.findIdx? (fun t => t.1 == id) with
  | none =>
    rw [List.findIdx?_eq_none_iff] at h
    exact .inr ⟨rfl, fun t ht => by simpa using h t ht⟩
  | some k =>
    rw [List.findIdx?_eq_some_iff_getElem] at h
    obtain ⟨hk, h1, _⟩ := h
    exact .inl ⟨k, hk, by simpa using h1, rfl⟩
theorem fndFrom_cases (S : Nat → List (Int × Int)) (id : Int) : ∀ d i, i + d = 64 →
    (∃ i' k, i ≤ i' ∧ i' < 64 ∧ ∃ hk : k < (S i').length, (S i')[k].1 = id ∧ idx id (S i') = k ∧ fndFrom S id d i = ((i' : Int), (k : Int), true)) ∨ (fndFrom S id d i = (0, 0, false) ∧ ∀ j, i ≤ j → j < 64 → ∀ t ∈ S j, t.1 ≠ id)
  | 0, i, h => .inr ⟨rfl, fun j h1 h2 => by omega⟩
  | d + 1, i, h => by
    unfold fndFrom
    rcases idx_cases id (S i) with ⟨k, hk, h1, h2⟩ | ⟨h1, h2⟩
    · rw [if_pos (by omega)]
      exact .inl ⟨i, k, Nat.le_refl _, by omega, hk, h1, h2, by rw [h2]⟩
    · rw [if_neg (by omega)]
      rcases fndFrom_cases S id d (i + 1) (by omega) with ⟨i', k, h3, h4, hk, h5⟩ | ⟨h3, h4⟩
      · exact .inl ⟨i', k, by omega, h4, hk, h5⟩
      · refine .inr ⟨h3, fun j hj hj2 => ?_⟩
        by_cases e : j = i
        · subst e; exact h2
        · exact h4 j (by omega) hj2
theorem fnd_cases (S : Nat → List (Int × Int)) (id : Int) :
    (∃ i k, i < 64 ∧ ∃ hk : k < (S i).length, (S i)[k].1 = id ∧ idx id (S i) = k ∧ fnd S id = ((i : Int), (k : Int), true)) ∨ (fnd S id = (0, 0, false) ∧ ∀ j, j < 64 → ∀ t ∈ S j, t.1 ≠ id) := by
  rcases fndFrom_cases S id 64 0 rfl with ⟨i, k, _, h⟩ | ⟨h1, h2⟩
  · exact .inl ⟨i, k, h⟩
  · exact .inr ⟨h1, fun j hj => h2 j (Nat.zero_le _) hj⟩
theorem IsW.below (h : IsW w B g ks vs S now n) {W : World} (hb : Below w.heap.size w W) : IsW W B g ks vs S now n :=
  ⟨(hb.block g (Array.getElem?_eq_some_iff.1 h.hg).1).trans h.hg, h.hB, fun i hi => (h.rows i hi).below hb, h.ne⟩
theorem Row.some_ {v : Value} {xs : List (Int × Int)} {k : Option Nat} (h : Row w B v xs k) {j : Nat} (hj : j < xs.length) : ∃ b cap, k = some b ∧ v = .slice (some ⟨b, 0, none⟩) xs.length cap := by
  cases k with
  | none => obtain ⟨_, rfl⟩ := h; simp at hj
  | some b => obtain ⟨cap, cs, rfl, _⟩ := h; exact ⟨b, cap, rfl, rfl⟩
set_option maxHeartbeats 2000000 in
set_option maxRecDepth 100000 in
theorem get_no (h : IsW w B g ks vs S now n) (id : Int) (hf : fnd S id = (0, 0, false)) :
    Calls Try.prog 13 #[.pointer (some ⟨g, 0, none⟩), .int .i64 id] w fun e w' => e = .returned (.tuple #[.int .i64 0, .bool false]) ∧ Below w.heap.size w w' := by
  have hcall := find_c h id
  rw [hf] at hcall
  clear h hf
  go_enter Try.func13, Try.ntmps13
  go_wp2_with (go_at_call 26; refine hcall.mono ?_; rintro e w' ⟨rfl, hb'⟩)
  go_ret2
  exact ⟨rfl, hb'⟩
set_option maxHeartbeats 2000000 in
set_option maxRecDepth 100000 in
theorem get_yes (h : IsW w B g ks vs S now n) (id : Int) {i k : Nat} (hi : i < 64) (hk : k < (S i).length) (hf : fnd S id = ((i : Int), (k : Int), true)) :
    Calls Try.prog 13 #[.pointer (some ⟨g, 0, none⟩), .int .i64 id] w fun e w' => e = .returned (.tuple #[.int .i64 (S i)[k].2, .bool true]) ∧ Below w.heap.size w w' := by
  have hcall := find_c h id
  rw [hf] at hcall
  have hia := fun W => run_indexAt64 g i hi W
  obtain ⟨b, cap, e1, e2⟩ := (h.rows i hi).some_ hk
  have hr := h.rows i hi
  rw [e1] at hr
  have hbl := hr.lt
  have hc1 : Hid (w.cell? ⟨g, i, none⟩ = some (.slice (some ⟨b, 0, none⟩) (S i).length cap)) := Lib.hid ((h.c hi).trans (by rw [e2]))
  have hc2 : Hid (w.cell? ⟨b, k * 2 + 1, none⟩ = some (.int .i64 (S i)[k].2)) := Lib.hid (hr.at_ hk).2
  have hgl : g < w.heap.size := (Array.getElem?_eq_some_iff.1 h.hg).1
  obtain ⟨x, hx⟩ : ∃ x, Hid ((S i)[k].2 = x) := ⟨_, Lib.hid rfl⟩
  rw [hx.out] at hc2 ⊢
  obtain ⟨m, hm⟩ : ∃ m, Hid ((S i).length = m) := ⟨_, Lib.hid rfl⟩
  rw [hm.out] at hc1
  have hkm : (k : Int) < (m : Int) := by rw [← hm.out]; omega
  dsimp only at hcall
  clear h hf hr e1 e2
  go_enter Try.func13, Try.ntmps13
  go_wp2_with (go_at_call 26; refine hcall.mono ?_; rintro e w' ⟨rfl, hb'⟩; have hd1 := (hb'.cell (p := ⟨g, i, none⟩) hgl).trans hc1.out; have hd2 := (hb'.cell (p := ⟨b, k * 2 + 1, none⟩) hbl).trans hc2.out)
  go_ret2
  exact ⟨rfl, hb'⟩
end Go.Proofs.Ytppefdodhbdlpaa.H
