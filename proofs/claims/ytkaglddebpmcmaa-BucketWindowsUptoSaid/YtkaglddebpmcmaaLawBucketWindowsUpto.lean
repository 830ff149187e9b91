-- Out of the printed row of BucketWindows, by upto.py (the session's own program). Lean checks it.
import Derived.Test.YtkaglddebpmcmaaRows
import Derived.Test.YtkaglddebpmcmaaPBucketWindowsx3
import Derived.Test.YtkaglddebpmcmaaPureBucketWindows
import Derived.Test.YtkaglddebpmcmaaRd
import Derived.WalkKit
import Derived.ProofKit
import Derived.OpenShut
import Derived.ShutString
import Derived.ChangeOld
import Derived.Below
import Derived.SizedLaws
import Derived.JoinedCond
import Derived.Deep.CondSized
namespace Go.Proofs.Ytkaglddebpmcmaa.bucketWindowsUpto
open Go.ChangeShapes Go.WideShapes Go.ChangeAt Go.RowKit Go.Proofs.Ytkaglddebpmcmaa.PBucketWindows Go.Proofs.YtkaglddebpmcmaaW.PrintWords Go.Proofs.YtkaglddebpmcmaaW.PrintLast
open Go.ChangeMaps (open_string shut_string)
set_option linter.unusedVariables false
set_option linter.unusedSimpArgs false
theorem own : ownKnob Try.prog.godebug = none := by kernel_rfl
theorem laidOut : laidOutB Try.prog = true := by kernel_rfl
/-! how great what comes in is, beside what it reads as -/
theorem one_le {H : Type} (d : DataW H) : 1 ≤ Rows.uptoBulk d := by
  cases d with
  | lit l => cases l <;> simp [Rows.uptoBulk]
  | nil => simp [Rows.uptoBulk]
  | ptr d => simp [Rows.uptoBulk]
  | slice elems spare => simp [Rows.uptoBulk]
  | agg parts => simp [Rows.uptoBulk]
  | iface t d => simp [Rows.uptoBulk]
  | map entries => simp [Rows.uptoBulk]
  | held h => simp [Rows.uptoBulk]
theorem part_le {H : Type} {d : DataW H} {l : List (DataW H)} (h : d ∈ l) : Rows.uptoBulk d ≤ Rows.uptoBulkAll l := by
  induction l with
  | nil => cases h
  | cons x r ih =>
    simp only [Rows.uptoBulkAll]
    cases List.mem_cons.1 h with
    | inl e => subst e; omega
    | inr e => have := ih e; omega
def RdsB (P : Program) (t : TypeId) {α : Type} (d : Kd α) (ok : α → Prop) (m : α → Nat) : Prop :=
  ∀ (H : Type) (enc : TypeId × Value → H) (w : World) (base : Nat) (spare : Nat → Bool) (held : Bool) (fuel : Nat) (cs : List Value) (x : DataW H × List MemPlace),
    DataW.trod enc P w base spare held fuel t cs = some x → ∃ v, d.K w v cs ∧ ok v ∧ m v ≤ Rows.uptoBulk x.1
theorem rdsB_int {P : Program} {t : TypeId} {k : IntKind} (ht : P.underlying t = some (.int k)) : RdsB P t (Kd.int k) (fun n => (Lit.int k n).wf = true) (fun _ => 1) := by
  intro H enc w base spare held fuel cs x h
  obtain ⟨v, h1, h2⟩ := Rd.rds_int ht H enc w base spare held fuel cs x h
  exact ⟨v, h1, h2, one_le _⟩
theorem sum_le {α H : Type} (m : α → Nat) (D : Nat → DataW H) : ∀ (l : List α) (j : Nat), (∀ i v, l[i]? = some v → m v ≤ Rows.uptoBulk (D (j + i))) → (l.map m).sum ≤ Rows.uptoBulkAll ((List.range' j l.length).map D)
  | [], _, _ => by simp [Rows.uptoBulkAll]
  | x :: l, j, h => by
    have h1 := h 0 x rfl
    have h2 := sum_le m D l (j + 1) (fun i v hi => by have := h (i + 1) v (by simpa using hi); rwa [show j + (i + 1) = j + 1 + i by omega] at this)
    simp only [List.length_cons, List.range'_succ, List.map_cons, List.sum_cons, Rows.uptoBulkAll]
    simp only [Nat.add_zero] at h1
    omega
theorem CB_of {α : Type} {P : Program} {t e : TypeId} {d : Kd α} {ok : α → Prop} {mm : α → Nat} (hel : RdsB P e d ok mm) (hsz : P.cellsOf e = d.sz) (ht : P.underlying t = some (.slice e)) {H : Type} {enc : TypeId × Value → H} {w : World} {base : Nat} {spare : Nat → Bool} {held : Bool} {fuel : Nat} {a : Option Addr} {len cap : Nat} {x : DataW H × List MemPlace}
    (h : DataW.trod enc P w base spare held fuel t [.slice a len cap] = some x) : ∃ l : List α, l.length = len ∧ d.C w a len l ∧ len ≤ cap ∧ len ≤ maxLen ∧ (∀ y ∈ l, ok y) ∧ (l.map mm).sum ≤ Rows.uptoBulk x.1 := by
  rcases Go.Deep.open_slice ht h with ⟨hcs, _⟩ | ⟨a', len', cap', m, n, D, Pl, hcs, hb, hl, hm, hmm, hx, hel'⟩
  · simp at hcs
    obtain ⟨rfl, rfl, rfl⟩ := hcs
    exact ⟨[], rfl, ⟨rfl, by omega, fun h => absurd h (by omega)⟩, by omega, by unfold maxLen; omega, (fun y hy => by cases hy), by simp⟩
  · simp at hcs
    obtain ⟨rfl, rfl, rfl⟩ := hcs
    have hlm : len ≤ m := by rw [hmm]; split <;> omega
    obtain ⟨l, hll, hp⟩ := Rd.list_of (fun i v => ∃ cs', w.cells? base (a'.add (i * P.cellsOf e)) (P.cellsOf e) = some cs' ∧ d.K w v cs' ∧ ok v ∧ mm v ≤ Rows.uptoBulk (D i)) len (fun i hi => by
      obtain ⟨cs', h1, h2⟩ := hel' i (by omega)
      obtain ⟨v, h3, h4⟩ := hel H enc w base spare held n cs' _ h2
      exact ⟨v, cs', h1, h3, h4⟩)
    refine ⟨l, hll, ⟨hll, by unfold maxLen at hm; omega, fun _ => ⟨a', rfl, fun j p hj => ?_⟩⟩, hl, by omega, (fun y hy => ?_), ?_⟩
    · obtain ⟨cs', h1, h2, _⟩ := hp j p hj
      obtain ⟨_, h4, h5⟩ := World.cells?_some h1
      refine ⟨cs', d.K_len h2, h2, fun i u hu => ?_⟩
      have hi := (List.getElem?_eq_some_iff.1 hu).1
      have := h5 i (by omega)
      rw [Go.Deep.add_add, hsz] at this
      rw [this]; exact hu
    · obtain ⟨i, hi⟩ := List.getElem?_of_mem hy
      obtain ⟨_, _, _, h3, _⟩ := hp i y hi
      exact h3
    · have h1 := sum_le mm D l 0 (fun i v hi => by obtain ⟨_, _, _, _, h4⟩ := hp i v hi; rwa [Nat.zero_add])
      rw [hll, ← List.range_eq_range'] at h1
      rw [hx]
      simp only [Rows.uptoBulk]
      omega
theorem rdsB_slice {α : Type} {P : Program} {t e : TypeId} {d : Kd α} {ok : α → Prop} {mm : α → Nat} (hel : RdsB P e d ok mm) (hsz : P.cellsOf e = d.sz) (ht : P.underlying t = some (.slice e)) : RdsB P t (Kd.slice e d) (fun l => l.length ≤ maxLen ∧ ∀ y ∈ l, ok y) (fun l => (l.map mm).sum) := by
  intro H enc w base spare held fuel cs x h
  obtain ⟨a, len, cap, rfl⟩ : ∃ a l c, cs = [.slice a l c] := by
    rcases Go.Deep.open_slice ht h with ⟨hcs, _⟩ | ⟨a', len', cap', m, n, D, Pl, hcs, _⟩
    · exact ⟨_, _, _, hcs⟩
    · exact ⟨_, _, _, hcs⟩
  obtain ⟨l, hl, hc, hle, hm, ho, hs⟩ := CB_of hel hsz ht h
  subst hl
  exact ⟨l, ⟨a, cap, rfl, hle, hc⟩, ⟨hm, ho⟩, hs⟩
theorem lens_sum (l : List S33) : Pure.lens l = (l.map fun x => x.f1.length + 1).sum := by
  induction l with
  | nil => rfl
  | cons x l ih => simp only [Pure.lens, List.map_cons, List.sum_cons, ih]
theorem ones {α : Type} (l : List α) : (l.map fun _ => 1).sum = l.length := by
  induction l with
  | nil => rfl
  | cons x l ih => simp only [List.map_cons, List.sum_cons, List.length_cons, ih]; omega
theorem rds_S33 : RdsB Try.prog 33 k33 okS33 (fun x => x.f1.length + 1) := by
  intro H enc w base spare held fuel cs x h
  obtain ⟨xs, n, _, hxe, hlen, hxl, hf⟩ := DataW.trod_struct Try.underlying33 h
  have hlen2 : cs.length = 2 := hlen.trans (by kernel_rfl)
  clear hlen
  obtain ⟨c0, c1, rfl⟩ : ∃ c0 c1, cs = [c0, c1] := by
    match cs, hlen2 with
    | [c0, c1], _ => exact ⟨c0, c1, rfl⟩
  have hc0 : Try.prog.cellsOf 30 = 1 := by kernel_rfl
  have f0 : DataW.trod enc Try.prog w base spare held n 30 (List.take (Try.prog.cellsOf 30) (List.drop 0 [c0, c1])) = xs[0]? := hf 0 _ rfl
  obtain ⟨y0, hy0⟩ : ∃ y, xs[0]? = some y := ⟨_, List.getElem?_eq_getElem (by rw [hxl]; decide)⟩
  rw [hy0] at f0
  simp only [hc0, List.drop_succ_cons, List.drop_zero, List.take_succ_cons, List.take_zero] at f0
  obtain ⟨v0, k0, o0, _⟩ := (rdsB_int Try.underlying30) H enc w base spare held n _ _ f0
  have hc1 : Try.prog.cellsOf 31 = 1 := by kernel_rfl
  have f1 : DataW.trod enc Try.prog w base spare held n 31 (List.take (Try.prog.cellsOf 31) (List.drop 1 [c0, c1])) = xs[1]? := hf 1 _ rfl
  obtain ⟨y1, hy1⟩ : ∃ y, xs[1]? = some y := ⟨_, List.getElem?_eq_getElem (by rw [hxl]; decide)⟩
  rw [hy1] at f1
  simp only [hc1, List.drop_succ_cons, List.drop_zero, List.take_succ_cons, List.take_zero] at f1
  obtain ⟨v1, k1, o1, s1⟩ := (rdsB_slice (rdsB_int Try.underlying3) (by kernel_rfl) Try.underlying31) H enc w base spare held n _ _ f1
  refine ⟨⟨v0, v1⟩, ⟨[c0], [c1], rfl, k0, k1⟩, ⟨o0, o1⟩, ?_⟩
  have hmem : y1.1 ∈ xs.map Prod.fst := List.mem_map_of_mem (List.mem_of_getElem? hy1)
  have hp : Rows.uptoBulk y1.1 ≤ Rows.uptoBulkAll (xs.map fun x => x.1) := part_le hmem
  rw [hxe]
  simp only [ones] at s1
  simp only [Rows.uptoBulk]
  omega
set_option maxRecDepth 100000 in
theorem contract (H : Type) (enc : TypeId × Value → H) (W : World) (base : Nat) (args : Array Value) (ds gs : List (DataW H)) (before : List MemPlace)
    (hval0 : ∀ (j : Nat) t v, Try.f6.params[j]? = some t → args[j]? = some v → Value.okWide Try.prog W .any base t v)
    (hW : DataW.Whole enc Try.prog Try.f6.params.toList Rows.bucketWindowsSpec.vars false W args.toList ds gs before) (hk : Rows.uptoSmall H (ds ++ gs) = true) :
    Calls Try.prog 6 args W fun e W' => ∃ v, e = .returned v ∧ Rows.bucketWindowsSpec.post enc Try.prog Try.f6 false true false false W args v W' := by
  have hval : ∀ (j : Nat) t v, Try.f6.params[j]? = some t → args[j]? = some v → Value.okWide Try.prog W .any base t v := hval0
  have hW' := hW
  obtain ⟨p, q, hA0, hV, rfl, hfz, hnd⟩ := hW
  have hA : DataW.TrodAll enc Try.prog W 0 (fun _ => true) true Try.f6.params.toList args.toList ds p := hA0
  rw [Try.params6] at hA hval
  obtain ⟨v0, vs0, d0, ds0, p0, q0, hargs, rfl, rfl, h0, r0⟩ := trodAll_cons hA
  obtain ⟨rfl, rfl, rfl⟩ := trodAll_nil r0
  obtain rfl : args = #[v0] := by cases args; simp_all
  obtain ⟨rfl, rfl⟩ := trodVars_none hV
  have k0 := h0
  have lt0 : ∀ x ∈ p0, x.block < W.heap.size := by obtain ⟨m, hm⟩ := k0; exact DataW.trod_lt m _ _ _ hm
  obtain ⟨cs0, rfl, hz0⟩ := okWide_struct Try.underlying51 (hval 0 51 v0 rfl rfl)
  obtain ⟨m0, hm0⟩ := h0
  have hz0' : cs0.toList.length = 4 := by rw [Array.length_toList]; exact hz0.trans (by kernel_rfl)
  have hm0' : DataW.trod enc Try.prog W 0 (fun _ => true) true m0 51 cs0.toList = some (d0, p0) := hm0
  obtain ⟨c0_0, c0_1, c0_2, c0_3, e0⟩ : ∃ c0_0 c0_1 c0_2 c0_3, cs0.toList = [c0_0, c0_1, c0_2, c0_3] := by
    match cs0.toList, hz0' with
    | [c0_0, c0_1, c0_2, c0_3], _ => exact ⟨c0_0, c0_1, c0_2, c0_3, rfl⟩
  obtain rfl : cs0 = #[c0_0, c0_1, c0_2, c0_3] := by rw [← Array.toList_inj]; exact e0
  obtain ⟨xsa0, na0, _, hxea0, _, hxla0, hfa0⟩ := DataW.trod_struct Try.underlying51 hm0'
  have hca0_0 : Try.prog.cellsOf 3 = 1 := by kernel_rfl
  have fa0_0 : DataW.trod enc Try.prog W 0 (fun _ => true) true na0 3 (List.take (Try.prog.cellsOf 3) (List.drop 0 [c0_0, c0_1, c0_2, c0_3])) = xsa0[0]? := hfa0 0 _ rfl
  obtain ⟨ya0_0, hya0_0⟩ : ∃ y, xsa0[0]? = some y := ⟨_, List.getElem?_eq_getElem (by rw [hxla0]; decide)⟩
  rw [hya0_0] at fa0_0
  simp only [hca0_0, List.drop_succ_cons, List.drop_zero, List.take_succ_cons, List.take_zero] at fa0_0
  obtain ⟨va0_0, kka0_0, oa0_0⟩ := (Rd.rds_int Try.underlying3) H enc W 0 (fun _ => true) true na0 _ _ fa0_0
  obtain rfl := (List.cons.inj (show [c0_0] = [.int .i64 va0_0] from kka0_0)).1
  have hca0_1 : Try.prog.cellsOf 22 = 1 := by kernel_rfl
  have fa0_1 : DataW.trod enc Try.prog W 0 (fun _ => true) true na0 22 (List.take (Try.prog.cellsOf 22) (List.drop 1 [(.int .i64 va0_0), c0_1, c0_2, c0_3])) = xsa0[1]? := hfa0 1 _ rfl
  obtain ⟨ya0_1, hya0_1⟩ : ∃ y, xsa0[1]? = some y := ⟨_, List.getElem?_eq_getElem (by rw [hxla0]; decide)⟩
  rw [hya0_1] at fa0_1
  simp only [hca0_1, List.drop_succ_cons, List.drop_zero, List.take_succ_cons, List.take_zero] at fa0_1
  obtain ⟨va0_1, kka0_1, oa0_1, sa0_1⟩ := (rdsB_slice rds_S33 (by kernel_rfl) Try.underlying22) H enc W 0 (fun _ => true) true na0 _ _ fa0_1
  obtain ⟨Aa0_1, cca0_1, eea0_1, hlea0_1, hCa0_1⟩ := kka0_1
  obtain rfl := (List.cons.inj eea0_1).1
  have hca0_2 : Try.prog.cellsOf 3 = 1 := by kernel_rfl
  have fa0_2 : DataW.trod enc Try.prog W 0 (fun _ => true) true na0 3 (List.take (Try.prog.cellsOf 3) (List.drop 2 [(.int .i64 va0_0), (.slice Aa0_1 va0_1.length cca0_1), c0_2, c0_3])) = xsa0[2]? := hfa0 2 _ rfl
  obtain ⟨ya0_2, hya0_2⟩ : ∃ y, xsa0[2]? = some y := ⟨_, List.getElem?_eq_getElem (by rw [hxla0]; decide)⟩
  rw [hya0_2] at fa0_2
  simp only [hca0_2, List.drop_succ_cons, List.drop_zero, List.take_succ_cons, List.take_zero] at fa0_2
  obtain ⟨va0_2, kka0_2, oa0_2⟩ := (Rd.rds_int Try.underlying3) H enc W 0 (fun _ => true) true na0 _ _ fa0_2
  obtain rfl := (List.cons.inj (show [c0_2] = [.int .i64 va0_2] from kka0_2)).1
  have hca0_3 : Try.prog.cellsOf 3 = 1 := by kernel_rfl
  have fa0_3 : DataW.trod enc Try.prog W 0 (fun _ => true) true na0 3 (List.take (Try.prog.cellsOf 3) (List.drop 3 [(.int .i64 va0_0), (.slice Aa0_1 va0_1.length cca0_1), (.int .i64 va0_2), c0_3])) = xsa0[3]? := hfa0 3 _ rfl
  obtain ⟨ya0_3, hya0_3⟩ : ∃ y, xsa0[3]? = some y := ⟨_, List.getElem?_eq_getElem (by rw [hxla0]; decide)⟩
  rw [hya0_3] at fa0_3
  simp only [hca0_3, List.drop_succ_cons, List.drop_zero, List.take_succ_cons, List.take_zero] at fa0_3
  obtain ⟨va0_3, kka0_3, oa0_3⟩ := (Rd.rds_int Try.underlying3) H enc W 0 (fun _ => true) true na0 _ _ fa0_3
  obtain rfl := (List.cons.inj (show [c0_3] = [.int .i64 va0_3] from kka0_3)).1
  clear hA0 hval0
  have hb : Pure.lens va0_1 ≤ 1048576 := by
    have h1 : Rows.uptoBulkAll ([d0] ++ []) ≤ 1048576 := of_decide_eq_true hk
    have hmem : ya0_1.1 ∈ xsa0.map Prod.fst := List.mem_map_of_mem (List.mem_of_getElem? hya0_1)
    have hp : Rows.uptoBulk ya0_1.1 ≤ Rows.uptoBulkAll (xsa0.map fun x => x.1) := part_le hmem
    have hs : (va0_1.map fun x => x.f1.length + 1).sum ≤ Rows.uptoBulk ya0_1.1 := sa0_1
    have hd : d0 = .agg (xsa0.map fun x => x.1) := congrArg Prod.fst hxea0
    rw [lens_sum]
    simp only [List.append_nil, Rows.uptoBulkAll, hd, Rows.uptoBulk] at h1
    omega
  obtain ⟨k, hp⟩ := Pure.BucketWindows va0_0 va0_1 va0_2 va0_3 oa0_0 oa0_1.1 oa0_1.2 oa0_2 oa0_3 hb
  refine (terracelaw20_BucketWindows.calls k va0_0 Aa0_1 cca0_1 va0_1 va0_2 va0_3 true W hCa0_1 hlea0_1 hp).mono fun e W' ⟨he, bel0⟩ => ?_
  have bel : Below W.heap.size W W' := bel0
  subst he
  exact ⟨_, rfl, _, _, _, [], _, [], hW', trodAll_mk1 (shut_bool Try.underlying4 _), (trodAll_cons_mk (Below.trod laidOut (by kernel_rfl) (of_decide_eq_true (by kernel_rfl)) k0 bel lt0) trodAll_mk0), rfl, bel.frame _, fun h => by cases h⟩
set_option maxRecDepth 100000 in
theorem lifted (os : Os) (started : os.Started) (H : Type) (enc : TypeId × Value → H) (F : Stop.Interp) :
    ReturnsInHanded {} Try.checked os 6 .any ((Rows.OpenSpec.upto Rows.bucketWindowsSpec).pre6 enc Try.prog Try.f6 Rows.bucketWindowsUptoRow.domain false) (((Rows.OpenSpec.upto Rows.bucketWindowsSpec).at F).post enc Try.prog Try.f6 false true false false) := by
  refine returnsInHanded_of_cond (C := Try.checked) (s := Rows.OpenSpec.upto Rows.bucketWindowsSpec) (k := Rows.uptoSmall) rfl own started (by kernel_rfl) Try.func6
    (OpenSpec.witness (enc := enc) (C := Try.checked) (s := Rows.OpenSpec.upto Rows.bucketWindowsSpec) (k := Rows.uptoSmall) rfl false ⟨#[], #[.agg #[.int .i64 0, .slice none 0 0, .int .i64 0, .int .i64 0]], []⟩ 8 (by kernel_rfl) (by kernel_rfl) (by kernel_rfl)
      (x := ([.agg [.lit (.int .i64 0), .nil, .lit (.int .i64 0), .lit (.int .i64 0)]], [], [])) (by kernel_rfl) rfl (by kernel_rfl)) ?_
  intro W base args ds gs before hval hW _ hk _
  exact contract H enc W base args ds gs before hval hW hk
theorem over : Rows.bucketWindowsUptoRow.holds Try.pinned (Rows.OpenSpec.upto Rows.bucketWindowsSpec) :=
  OpenClaim.holds_of_cond 6 Try.f6 rfl rfl rfl rfl rfl rfl rfl ⟨rfl, rfl, rfl, rfl, rfl⟩ rfl rfl rfl rfl rfl (by kernel_rfl) Try.func6 (by kernel_rfl)
    (of_decide_eq_true (by kernel_rfl)) (by unfold Func.isWrapper; first | (rw [if_pos (by decide +kernel)]; kernel_rfl) | (rw [if_neg (by decide +kernel)]; exact ⟨rfl, rfl⟩))
    (fun os started H enc _ F => lifted os started H enc F)
theorem proved : Rows.BucketWindowsUptoSaid := over
#print axioms proved
end Go.Proofs.Ytkaglddebpmcmaa.bucketWindowsUpto
namespace Go.Proofs.Ytkaglddebpmcmaa
/-- The row, under a short name, for the claim. -/
theorem bucketWindowsUpto_holds : Rows.BucketWindowsUptoSaid := bucketWindowsUpto.proved
end Go.Proofs.Ytkaglddebpmcmaa
