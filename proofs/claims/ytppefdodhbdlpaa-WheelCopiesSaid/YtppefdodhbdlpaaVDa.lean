import Derived.Test.YtppefdodhbdlpaaVCg
import Derived.Test.YtppefdodhbdlpaaRef
import Derived.Test.YtppefdodhbdlpaaWEqStruct
namespace Go.Proofs.Ytppefdodhbdlpaa.H
open Go.RowKit Go.Shelf Go.Proofs.Ytppefdodhbdlpaa.PWheelPlays Go.Proofs.YtppefdodhbdlpaaW.PrintWords
set_option linter.unusedVariables false
set_option linter.unusedSimpArgs false
variable {w : World} {B g : Nat} {ks : Nat → Option Nat} {now n : Int} {m r l : List (Int × Int)} {t : Int × Int}
def toS (t : Int × Int) : S58 := ⟨t.1, t.2⟩
theorem rd_toS (l : List (Int × Int)) {i : Nat} (h : i < l.length) : rd_T58 (l.map toS) (i : Int) = toS l[i] := by
  unfold rd_T58
  rw [Int.toNat_natCast, List.getD_eq_getElem?_getD, List.getElem?_eq_getElem (by simpa using h)]
  simp
theorem wr64 {i : Nat} (h : i ≤ 1048576) : wrap64 ((i : Int) + 1) = ((i + 1 : Nat) : Int) := by unfold wrap64; omega
theorem find_f (l : List (Int × Int)) (id : Int) (hl : l.length ≤ 1048576) : ∀ d i k, i + d = l.length → d < k → (∀ j (hj : j < l.length), j < i → l[j].1 ≠ id) → terraceref09_Find.l0 k (l.map toS) id (i : Int) = some (idx id l)
  | 0, i, k, hi, hk, hn => by
    obtain ⟨k, rfl⟩ : ∃ q, k = q + 1 := ⟨k - 1, by omega⟩
    simp only [terraceref09_Find.l0]
    rw [if_neg (by simp; omega), idx_miss (fun j hj => by simpa using hn j hj (by omega))]
  | d + 1, i, k, hi, hk, hn => by
    obtain ⟨k, rfl⟩ : ∃ q, k = q + 1 := ⟨k - 1, by omega⟩
    have hil : i < l.length := by omega
    simp only [terraceref09_Find.l0]
    rw [if_pos (by simp; omega), if_pos (by omega), rd_toS l hil, show (toS l[i]).f0 = l[i].1 from rfl]
    by_cases h : l[i].1 = id
    · rw [if_pos h, idx_hit hil (by simpa using h) (fun j hj => by simpa using hn j (by omega) hj)]
    · rw [if_neg h, wr64 (by omega)]
      exact find_f l id hl d (i + 1) k (by omega) (by omega) (fun j hj hj2 => by
        by_cases e : j = i
        · subst e; exact h
        · exact hn j hj (by omega))
def gtT (x t : Int × Int) : Bool := decide (t.2 < x.2 ∨ x.2 = t.2 ∧ t.1 < x.1)
def putR : List (Int × Int) → (Int × Int) → List (Int × Int)
  | [], t => [t]
  | x :: xs, t => if gtT x t then t :: x :: xs else x :: putR xs t
theorem putR_eq : ∀ (m : List (Int × Int)) (t : Int × Int), Sorted m → (∀ x ∈ m, x.1 ≠ t.1) → putR m t = ins m t
  | [], t, _, _ => rfl
  | x :: xs, t, hs, hn => by
    obtain ⟨h1, h2⟩ := List.pairwise_cons.1 hs
    have hx := hn x (by simp)
    unfold putR
    by_cases hg : gtT x t = true
    · rw [if_pos hg]
      have hnl : ∀ y ∈ x :: xs, ltB y t = false := fun y hy => by
        have hxt : ¬ ordI x t < 0 := by
          rw [ordI_lt]; unfold gtT at hg; simp at hg; omega
        rcases List.mem_cons.1 hy with rfl | hy
        · exact decide_eq_false hxt
        · exact decide_eq_false (ordI_not_trans (h1 y hy) hxt)
      unfold ins
      rw [List.filter_eq_nil_iff.2 (fun y hy => by simp [hnl y hy]), List.filter_eq_self.2 (fun y hy => by simp [hnl y hy])]
      rfl
    · rw [if_neg hg]
      have hlt : ltB x t = true := by
        unfold gtT at hg; simp at hg
        refine decide_eq_true ?_
        rw [ordI_lt]; omega
      rw [putR_eq xs t h2 (fun y hy => hn y (List.mem_cons_of_mem _ hy))]
      unfold ins
      rw [List.filter_cons_of_pos (p := fun x => ltB x t) hlt, List.filter_cons_of_neg (p := fun x => !ltB x t) (by simp [hlt])]
      rfl
theorem put_f (l : List (Int × Int)) (t : Int × Int) (hl : l.length ≤ 1048576) : ∀ d i k (out : List (Int × Int)) (dn : Bool), i + d = l.length → d < k → out.length ≤ i + (if dn = true then 1 else 0) →
    terraceref09_Put.l0 k (l.map toS) t.1 t.2 (out.map toS) dn (i : Int) = some ((out ++ (if dn then l.drop i else putR (l.drop i) t)).map toS)
  | 0, i, k, out, dn, hi, hk, ho => by
    obtain ⟨k, rfl⟩ : ∃ q, k = q + 1 := ⟨k - 1, by omega⟩
    simp only [terraceref09_Put.l0]
    rw [if_neg (by simp; omega), List.drop_of_length_le (by omega)]
    cases dn with
    | true => simp
    | false =>
      simp only [Bool.false_eq_true, if_false] at ho
      rw [if_neg (by simp), if_pos (by simp; omega)]
      simp [putR, toS]
  | d + 1, i, k, out, dn, hi, hk, ho => by
    obtain ⟨k, rfl⟩ : ∃ q, k = q + 1 := ⟨k - 1, by omega⟩
    have hil : i < l.length := by omega
    have hdr : l.drop i = l[i] :: l.drop (i + 1) := List.drop_eq_getElem_cons hil
    have ih := fun out' dn' h => put_f l t hl d (i + 1) k out' dn' (by omega) (by omega) h
    simp only [terraceref09_Put.l0]
    rw [if_pos (by simp; omega), rd_toS l hil, wr64 (by omega)]
    have e1 : out.map toS ++ [(⟨(toS l[i]).f0, (toS l[i]).f1⟩ : S58)] = (out ++ [l[i]]).map toS := by simp [toS]
    cases dn with
    | true =>
      simp only [if_true] at ho
      rw [if_pos rfl, if_pos (by omega), if_pos (by simp; omega), e1, ih _ true (by simp; omega), if_pos rfl, if_pos rfl, hdr]
      simp
    | false =>
      simp only [Bool.false_eq_true, if_false] at ho
      have e2 : out.map toS ++ [(⟨t.1, t.2⟩ : S58)] = (out ++ [t]).map toS := by simp [toS]
      have e3 : (out ++ [t]).map toS ++ [(⟨(toS l[i]).f0, (toS l[i]).f1⟩ : S58)] = (out ++ [t, l[i]]).map toS := by simp [toS]
      rw [if_neg (by simp), if_pos (by omega), e2]
      simp only [Option.bind_some]
      rw [e3, e1, ih _ true (by simp; omega), ih _ false (by simp; omega), if_pos rfl, hdr, show putR (l[i] :: l.drop (i + 1)) t = (if gtT l[i] t then t :: l[i] :: l.drop (i + 1) else l[i] :: putR (l.drop (i + 1)) t) from rfl]
      have hf0 : (toS l[i]).f0 = l[i].1 := rfl
      have hf1 : (toS l[i]).f1 = l[i].2 := rfl
      rw [hf0, hf1]
      have hL1 : (out.map toS).length < 8796093022208 := by simp; omega
      have hL2 : ((out ++ [t]).map toS).length < 8796093022208 := by simp; omega
      by_cases h1 : l[i].2 > t.2
      · have hg : gtT l[i] t = true := decide_eq_true (.inl h1)
        rw [if_pos h1, if_pos hL1, if_pos hL2, if_neg (by simp), if_pos hg]
        simp
      · rw [if_neg h1]
        by_cases h2 : l[i].2 = t.2
        · rw [if_pos h2]
          by_cases h3 : l[i].1 > t.1
          · have hg : gtT l[i] t = true := decide_eq_true (.inr ⟨h2, h3⟩)
            rw [if_pos h3, if_pos hL1, if_pos hL2, if_neg (by simp), if_pos hg]
            simp
          · have hg : ¬ gtT l[i] t = true := by unfold gtT; simp; omega
            rw [if_neg h3, if_pos hL1, if_neg (by simp), if_neg (by simp), if_neg hg]
            simp
        · have hg : ¬ gtT l[i] t = true := by unfold gtT; simp; omega
          rw [if_neg h2, if_pos hL1, if_neg (by simp), if_neg (by simp), if_neg hg]
          simp
theorem without_f (l : List (Int × Int)) (p : Nat) (hl : l.length ≤ 1048576) : ∀ d i k (out : List (Int × Int)), i + d = l.length → d < k → out.length ≤ i →
    terraceref09_Without.l0 k (l.map toS) (p : Int) (out.map toS) (i : Int) = some ((out ++ (if i ≤ p then (l.drop i).eraseIdx (p - i) else l.drop i)).map toS)
  | 0, i, k, out, hi, hk, ho => by
    obtain ⟨k, rfl⟩ : ∃ q, k = q + 1 := ⟨k - 1, by omega⟩
    simp only [terraceref09_Without.l0]
    rw [if_neg (by simp; omega), List.drop_of_length_le (by omega)]
    split <;> simp
  | d + 1, i, k, out, hi, hk, ho => by
    obtain ⟨k, rfl⟩ : ∃ q, k = q + 1 := ⟨k - 1, by omega⟩
    have hil : i < l.length := by omega
    have hdr : l.drop i = l[i] :: l.drop (i + 1) := List.drop_eq_getElem_cons hil
    have ih := fun out' h => without_f l p hl d (i + 1) k out' (by omega) (by omega) h
    simp only [terraceref09_Without.l0]
    rw [if_pos (by simp; omega), rd_toS l hil, wr64 (by omega)]
    have e1 : out.map toS ++ [(⟨(toS l[i]).f0, (toS l[i]).f1⟩ : S58)] = (out ++ [l[i]]).map toS := by simp [toS]
    by_cases h : i = p
    · subst h
      rw [if_pos rfl, ih _ (by omega), if_neg (by omega), if_pos (Nat.le_refl _), hdr, Nat.sub_self]
      simp
    · rw [if_neg (by omega), if_pos (by omega), if_pos (by simp; omega), e1, ih _ (by simp; omega)]
      by_cases h2 : i ≤ p
      · rw [if_pos (by omega), if_pos h2, hdr, show p - i = (p - (i + 1)) + 1 by omega, List.eraseIdx_cons_succ]
        simp
      · rw [if_neg (by omega), if_neg h2, hdr]
        simp
theorem MR.C {A : Option Addr} {cap b o : Nat} (h : MR w (.slice A l.length cap) l b o) : Kd.C k58 w A l.length (l.map toS) ∧ l.length ≤ cap := by
  obtain ⟨A', cap', he, hc, hm, hA⟩ := h.val
  obtain ⟨rfl, rfl⟩ : A = A' ∧ cap = cap' := by simpa using he
  refine ⟨⟨by simp, by unfold maxLen at hm; omega, fun h0 => ⟨_, hA h0, fun j p hp => ?_⟩⟩, hc⟩
  have hj : j < l.length := by have := (List.getElem?_eq_some_iff.1 hp).1; simpa using this
  rw [List.getElem?_map, List.getElem?_eq_getElem hj] at hp
  obtain rfl : toS l[j] = p := by simpa using hp
  refine ⟨_, rfl, k58_mk w _, fun i u hu => ?_⟩
  have hcs := h.cells j hj
  match i, hu with
  | 0, hu => simp at hu; subst hu; rw [Addr.add_mid]; exact hcs.1
  | 1, hu => simp at hu; subst hu; rw [Addr.add_mid]; exact hcs.2
theorem MR.of_R {W : World} {base : Nat} {ok : Nat → Prop} {v : Value} (h : Kd.R k58 58 W base ok v (l.map toS)) : ∃ b, MR W v l b 0 ∧ (0 < l.length → base ≤ b) := by
  obtain ⟨A, c, hv, hlc, hC⟩ := Kd.R_reads h
  obtain ⟨inner, ho⟩ := Kd.R_own h
  have hlen : (l.map toS).length = l.length := by simp
  rw [hlen] at hv hlc hC ho
  have key : ∀ b, A = some ⟨b, 0, none⟩ → ∀ j (hj : j < l.length), W.cell? ⟨b, 0 + j * 2, none⟩ = some (.int .i64 l[j].1) ∧ W.cell? ⟨b, 0 + j * 2 + 1, none⟩ = some (.int .i64 l[j].2) := fun b hA j hj => by
    obtain ⟨ad, had, hc⟩ := hC.2.2 (by omega)
    rw [hA] at had
    obtain rfl : (⟨b, 0, none⟩ : Addr) = ad := by simpa using had
    obtain ⟨c, hcl, hK, hcell⟩ := hc j (toS l[j]) (by simp [hj])
    obtain rfl := k58_open hK
    have h0 := hcell 0 _ rfl
    have h1 := hcell 1 _ rfl
    rw [Addr.add_mid] at h0 h1
    exact ⟨h0, h1⟩
  rcases ho.2 with ⟨h1, h2⟩ | ⟨b, cap, cur, h1, hb, hh, hl, hm, hsz, hf⟩
  · refine ⟨0, ⟨⟨none, 0, by rw [h1, h2], by omega, Nat.zero_le _, fun h => by omega⟩, fun j hj => by omega⟩, fun h => by omega⟩
  · rw [hv] at h1
    obtain ⟨hA, hcc⟩ : A = some ⟨b, 0, none⟩ ∧ c = cap := by simpa using h1
    exact ⟨b, ⟨⟨A, c, hv, hlc, by rw [hcc]; exact hm, fun _ => hA⟩, key b hA⟩, fun _ => hb⟩
end Go.Proofs.Ytppefdodhbdlpaa.H
namespace Go.Proofs.Ytppefdodhbdlpaa.H
open Go.RowKit Go.Shelf Go.Proofs.Ytppefdodhbdlpaa.PWheelPlays Go.Proofs.YtppefdodhbdlpaaW.PrintWords
set_option linter.unusedVariables false
set_option linter.unusedSimpArgs false
variable {w : World} {B g : Nat} {ks : Nat → Option Nat} {now n : Int} {m r l : List (Int × Int)} {t : Int × Int} {b o : Nat} {v : Value}
theorem find_mr (h : MR w v l b o) (hl : l.length ≤ 1048576) (id : Int) : Calls Try.prog 14 #[v, .int .i64 id] w fun e w' => e = .returned (.int .i64 (idx id l)) ∧ Below w.heap.size w w' := by
  obtain ⟨A, cap, rfl, _⟩ := h.val
  obtain ⟨hC, hc⟩ := h.C
  have hf : terraceref09_Find.f (l.length + 1) (l.map toS) id = some (idx id l) := find_f l id hl l.length 0 (l.length + 1) (by omega) (by omega) (fun j _ h => by omega)
  have := terraceref09_Find.calls (l.length + 1) A cap (l.map toS) id _ w (by simpa using hC) (by simpa using hc) hf
  simp only [List.length_map] at this
  refine this.mono ?_
  rintro e w' ⟨rfl, hd⟩
  exact ⟨rfl, hd.below⟩
def NewPost (w : World) (M : List (Int × Int)) (e : Ending) (w' : World) : Prop := ∃ v' b', e = .returned v' ∧ MR w' v' M b' 0 ∧ (0 < M.length → w.heap.size ≤ b') ∧ Below w.heap.size w w'
theorem put_mr (h : MR w v l b o) (hl : l.length ≤ 1048576) (t : Int × Int) : Calls Try.prog 34 #[v, .int .i64 t.1, .int .i64 t.2] w (NewPost w (putR l t)) := by
  obtain ⟨A, cap, rfl, _⟩ := h.val
  obtain ⟨hC, hc⟩ := h.C
  have hf : terraceref09_Put.f (l.length + 1) (l.map toS) t.1 t.2 = some ((putR l t).map toS) := put_f l t hl l.length 0 (l.length + 1) [] false (by omega) (by omega) (by simp)
  have := terraceref09_Put.calls (l.length + 1) A cap (l.map toS) t.1 t.2 _ w (by simpa using hC) (by simpa using hc) hf
  simp only [List.length_map] at this
  refine this.mono ?_
  rintro e w' ⟨v', rfl, hR, hb⟩
  obtain ⟨b', hm, hb'⟩ := MR.of_R hR
  exact ⟨v', b', rfl, hm, hb', hb⟩
theorem without_mr (h : MR w v l b o) (hl : l.length ≤ 1048576) (p : Nat) : Calls Try.prog 35 #[v, .int .i64 p] w (NewPost w (l.eraseIdx p)) := by
  obtain ⟨A, cap, rfl, _⟩ := h.val
  obtain ⟨hC, hc⟩ := h.C
  have hf : terraceref09_Without.f (l.length + 1) (l.map toS) (p : Int) = some ((l.eraseIdx p).map toS) := by
    have := without_f l p hl l.length 0 (l.length + 1) [] (by omega) (by omega) (by simp)
    rw [if_pos (Nat.zero_le _)] at this
    unfold terraceref09_Without.f
    simpa using this
  have := terraceref09_Without.calls (l.length + 1) A cap (l.map toS) p _ w (by simpa using hC) (by simpa using hc) hf
  simp only [List.length_map] at this
  refine this.mono ?_
  rintro e w' ⟨v', rfl, hR, hb⟩
  obtain ⟨b', hm, hb'⟩ := MR.of_R hR
  exact ⟨v', b', rfl, hm, hb', hb⟩
def CallPost (w : World) (v : Value) (l : List (Int × Int)) (b o : Nat) (M : List (Int × Int)) (E : Int) (e : Ending) (w' : World) : Prop :=
  ∃ v' b' o', e = .returned (.tuple #[v', .int .i64 E]) ∧ MR w' v' M b' o' ∧ (b' = b ∧ M = l ∨ (0 < M.length → w.heap.size ≤ b')) ∧ Below w.heap.size w w'
theorem CallPost.same (h : MR w v l b o) {W : World} (hb : Below w.heap.size w W) {E : Int} : CallPost w v l b o l E (.returned (.tuple #[v, .int .i64 E])) W := ⟨v, b, o, rfl, h.below hb, .inl ⟨rfl, rfl⟩, hb⟩
theorem CallPost.new {M : List (Int × Int)} {W W2 : World} {v' : Value} {b' : Nat} (hW : Below w.heap.size w W) (hm : MR W2 v' M b' 0) (hb' : 0 < M.length → W.heap.size ≤ b') (hb : Below W.heap.size W W2) {E : Int} : CallPost w v l b o M E (.returned (.tuple #[v', .int .i64 E])) W2 :=
  ⟨v', b', 0, rfl, hm, .inr (fun h => Nat.le_trans hW.size (hb' h)), hW.trans (hb.mono hW.size)⟩
theorem idx_has (id : Int) (l : List (Int × Int)) : (has l id = true ∧ ∃ k, ∃ hk : k < l.length, l[k].1 = id ∧ idx id l = k) ∨ (has l id = false ∧ idx id l = -1) := by
  rcases idx_cases id l with ⟨k, hk, h1, h2⟩ | ⟨h1, h2⟩
  · exact .inl ⟨has_true.2 ⟨l[k], List.getElem_mem hk, h1⟩, k, hk, h1, h2⟩
  · exact .inr ⟨has_false.2 h2, h1⟩
set_option maxHeartbeats 1000000 in
set_option maxRecDepth 100000 in
theorem call_lo (h : MR w v l b o) (hl : l.length ≤ 1024) (kind id tick : Int) (hk : kind ≠ 3) (ht : tick < 0) : Calls Try.prog 23 #[v, .int .i64 kind, .int .i64 id, .int .i64 tick] w (CallPost w v l b o l 11) := by
  have HF := Lib.hid (find_mr h (by omega) id)
  generalize idx id l = x at HF
  have hkd : (kind != 3) = true := by rw [bne_iff_ne]; exact hk
  have htd : decide (tick < 0) = true := decide_eq_true ht
  clear hk ht
  have HMR := Lib.hid h
  obtain ⟨A, cap, hv, _⟩ := h.val
  have HL := Lib.hid hl
  obtain ⟨z, HZ⟩ : ∃ z, Hid (l.length = z) := ⟨_, Lib.hid rfl⟩
  rw [HZ.out] at hv
  clear h
  subst hv
  go_enter Try.func23, Try.ntmps23
  go_wp2_with fail
  have hX := HF.out; go_fit hX; clear hX; rintro e w1 ⟨rfl, hb1⟩
  have HB1 := Lib.hid hb1
  clear hb1
  go_wp2
  go_ret2
  exact CallPost.same HMR.out HB1.out
set_option maxHeartbeats 1000000 in
set_option maxRecDepth 100000 in
theorem call_hi (h : MR w v l b o) (hl : l.length ≤ 1024) (kind id tick : Int) (hk : kind ≠ 3) (ht : 2199023255552 < tick) : Calls Try.prog 23 #[v, .int .i64 kind, .int .i64 id, .int .i64 tick] w (CallPost w v l b o l 11) := by
  have HF := Lib.hid (find_mr h (by omega) id)
  generalize idx id l = x at HF
  have hkd : (kind != 3) = true := by rw [bne_iff_ne]; exact hk
  have htd : decide (tick < 0) = false := decide_eq_false (by omega)
  have htd2 : decide (2199023255552 < tick) = true := decide_eq_true ht
  clear hk ht
  have HMR := Lib.hid h
  obtain ⟨A, cap, hv, _⟩ := h.val
  have HL := Lib.hid hl
  obtain ⟨z, HZ⟩ : ∃ z, Hid (l.length = z) := ⟨_, Lib.hid rfl⟩
  rw [HZ.out] at hv
  clear h
  subst hv
  go_enter Try.func23, Try.ntmps23
  go_wp2_with fail
  have hX := HF.out; go_fit hX; clear hX; rintro e w1 ⟨rfl, hb1⟩
  have HB1 := Lib.hid hb1
  clear hb1
  go_wp2
  go_ret2
  exact CallPost.same HMR.out HB1.out
set_option maxHeartbeats 1000000 in
set_option maxRecDepth 100000 in
theorem call1_has (h : MR w v l b o) (hl : l.length ≤ 1024) (id tick : Int) (hok : okTick tick = true) (hx : ∃ k, ∃ hk : k < l.length, l[k].1 = id ∧ idx id l = k) : Calls Try.prog 23 #[v, .int .i64 1, .int .i64 id, .int .i64 tick] w (CallPost w v l b o l 13) := by
  have HF := Lib.hid (find_mr h (by omega) id)
  obtain ⟨p, hp, hp1, hp2⟩ := hx
  rw [hp2] at HF
  have hxz : decide ((0 : Int) ≤ (p : Int)) = true := by simp
  have hxz2 : decide ((p : Int) < 0) = false := decide_eq_false (by omega)
  have hok2 := hok
  unfold okTick at hok2
  simp at hok2
  have htd : decide (tick < 0) = false := decide_eq_false (by omega)
  have htd2 : decide (2199023255552 < tick) = false := decide_eq_false (by omega)
  clear hok2 hok

  have HMR := Lib.hid h
  obtain ⟨A, cap, hv, _⟩ := h.val
  have HL := Lib.hid hl
  obtain ⟨z, HZ⟩ : ∃ z, Hid (l.length = z) := ⟨_, Lib.hid rfl⟩
  rw [HZ.out] at hv
  clear h
  subst hv
  go_enter Try.func23, Try.ntmps23
  go_wp2_with fail
  have hX := HF.out; go_fit hX; clear hX; rintro e w1 ⟨rfl, hb1⟩
  have HB1 := Lib.hid hb1
  clear hb1
  go_wp2
  go_ret2
  exact CallPost.same HMR.out HB1.out
set_option maxHeartbeats 1000000 in
set_option maxRecDepth 100000 in
theorem call1_full (h : MR w v l b o) (hl : l.length ≤ 1024) (id tick : Int) (hok : okTick tick = true) (hx : idx id l = -1) (hfull : 1024 ≤ l.length) : Calls Try.prog 23 #[v, .int .i64 1, .int .i64 id, .int .i64 tick] w (CallPost w v l b o l 15) := by
  have HF := Lib.hid (find_mr h (by omega) id)
  rw [hx] at HF
  have hok2 := hok
  unfold okTick at hok2
  simp at hok2
  have htd : decide (tick < 0) = false := decide_eq_false (by omega)
  have htd2 : decide (2199023255552 < tick) = false := decide_eq_false (by omega)
  clear hok2 hok

  have HMR := Lib.hid h
  obtain ⟨A, cap, hv, _⟩ := h.val
  have HL := Lib.hid hl
  obtain ⟨z, HZ⟩ : ∃ z, Hid (l.length = z) := ⟨_, Lib.hid rfl⟩
  rw [HZ.out] at hv
  clear h
  subst hv
  go_enter Try.func23, Try.ntmps23
  go_wp2_with fail
  have hX := HF.out; go_fit hX; clear hX; rintro e w1 ⟨rfl, hb1⟩
  have HB1 := Lib.hid hb1
  clear hb1
  rw [HZ.out] at hfull
  have hfz : (1024 : Int) ≤ (z : Int) := by omega
  have hfd : decide ((1024 : Int) ≤ (z : Int)) = true := decide_eq_true hfz
  go_wp2
  go_ret2
  exact CallPost.same HMR.out HB1.out
set_option maxHeartbeats 1000000 in
set_option maxRecDepth 100000 in
theorem call1_put (h : MR w v l b o) (hl : l.length ≤ 1024) (id tick : Int) (hok : okTick tick = true) (hx : idx id l = -1) (hfull : l.length < 1024) : Calls Try.prog 23 #[v, .int .i64 1, .int .i64 id, .int .i64 tick] w (CallPost w v l b o (putR l (id, tick)) 0) := by
  have HF := Lib.hid (find_mr h (by omega) id)
  rw [hx] at HF
  have hok2 := hok
  unfold okTick at hok2
  simp at hok2
  have htd : decide (tick < 0) = false := decide_eq_false (by omega)
  have htd2 : decide (2199023255552 < tick) = false := decide_eq_false (by omega)
  clear hok2 hok

  have HMR := Lib.hid h
  obtain ⟨A, cap, hv, _⟩ := h.val
  have HL := Lib.hid hl
  obtain ⟨z, HZ⟩ : ∃ z, Hid (l.length = z) := ⟨_, Lib.hid rfl⟩
  rw [HZ.out] at hv
  clear h
  subst hv
  go_enter Try.func23, Try.ntmps23
  go_wp2_with fail
  have hX := HF.out; go_fit hX; clear hX; rintro e w1 ⟨rfl, hb1⟩
  have HB1 := Lib.hid hb1
  clear hb1
  rw [HZ.out] at hfull
  have hfz : (z : Int) < 1024 := by omega
  have hfd : decide ((1024 : Int) ≤ (z : Int)) = false := decide_eq_false (by omega)
  have HP := Lib.hid (put_mr (HMR.out.below HB1.out) (by have := HL.out; omega) (id, tick))
  go_wp2_with fail
  have hX := HP.out; go_fit hX; clear hX; rintro e w2 ⟨v', b', rfl, hm, hb', hb2⟩
  have HM := Lib.hid hm
  have HB' := Lib.hid hb'
  have HB2 := Lib.hid hb2
  clear hm hb' hb2
  go_wp2
  go_ret2
  exact CallPost.new HB1.out HM.out HB'.out HB2.out
set_option maxHeartbeats 1000000 in
set_option maxRecDepth 100000 in
theorem call2_no (h : MR w v l b o) (hl : l.length ≤ 1024) (id tick : Int) (hok : okTick tick = true) (hx : idx id l = -1) : Calls Try.prog 23 #[v, .int .i64 2, .int .i64 id, .int .i64 tick] w (CallPost w v l b o l 14) := by
  have HF := Lib.hid (find_mr h (by omega) id)
  rw [hx] at HF
  have hok2 := hok
  unfold okTick at hok2
  simp at hok2
  have htd : decide (tick < 0) = false := decide_eq_false (by omega)
  have htd2 : decide (2199023255552 < tick) = false := decide_eq_false (by omega)
  clear hok2 hok

  have HMR := Lib.hid h
  obtain ⟨A, cap, hv, _⟩ := h.val
  have HL := Lib.hid hl
  obtain ⟨z, HZ⟩ : ∃ z, Hid (l.length = z) := ⟨_, Lib.hid rfl⟩
  rw [HZ.out] at hv
  clear h
  subst hv
  go_enter Try.func23, Try.ntmps23
  go_wp2_with fail
  have hX := HF.out; go_fit hX; clear hX; rintro e w1 ⟨rfl, hb1⟩
  have HB1 := Lib.hid hb1
  clear hb1
  go_wp2
  go_ret2
  exact CallPost.same HMR.out HB1.out
set_option maxHeartbeats 1000000 in
set_option maxRecDepth 100000 in
theorem call2_yes (h : MR w v l b o) (hl : l.length ≤ 1024) (id tick : Int) (hok : okTick tick = true) {p : Nat} (hx : idx id l = p) : Calls Try.prog 23 #[v, .int .i64 2, .int .i64 id, .int .i64 tick] w (CallPost w v l b o (putR (l.eraseIdx p) (id, tick)) 0) := by
  have HF := Lib.hid (find_mr h (by omega) id)
  rw [hx] at HF
  have hxz2 : decide ((p : Int) < 0) = false := decide_eq_false (by omega)
  have hok2 := hok
  unfold okTick at hok2
  simp at hok2
  have htd : decide (tick < 0) = false := decide_eq_false (by omega)
  have htd2 : decide (2199023255552 < tick) = false := decide_eq_false (by omega)
  clear hok2 hok

  have HMR := Lib.hid h
  obtain ⟨A, cap, hv, _⟩ := h.val
  have HL := Lib.hid hl
  obtain ⟨z, HZ⟩ : ∃ z, Hid (l.length = z) := ⟨_, Lib.hid rfl⟩
  rw [HZ.out] at hv
  clear h
  subst hv
  go_enter Try.func23, Try.ntmps23
  go_wp2_with fail
  have hX := HF.out; go_fit hX; clear hX; rintro e w1 ⟨rfl, hb1⟩
  have HB1 := Lib.hid hb1
  clear hb1
  have HW := Lib.hid (without_mr (HMR.out.below HB1.out) (by have := HL.out; omega) p)
  go_wp2_with fail
  have hX := HW.out; go_fit hX; clear hX; rintro e w2 ⟨v2, b2, rfl, hm, hb', hb2⟩
  have HP := Lib.hid (put_mr hm (by have := HL.out; have := List.length_eraseIdx_le l p; omega) (id, tick))
  have HB2 := Lib.hid (HB1.out.trans (hb2.mono HB1.out.size))
  clear hm hb' hb2
  go_wp2_with fail
  have hX := HP.out; go_fit hX; clear hX; rintro e w3 ⟨v3, b3, rfl, hm, hb', hb3⟩
  have HM := Lib.hid hm
  have HB' := Lib.hid hb'
  have HB3 := Lib.hid hb3
  clear hm hb' hb3
  go_wp2
  go_ret2
  exact CallPost.new HB2.out HM.out HB'.out HB3.out
set_option maxHeartbeats 1000000 in
set_option maxRecDepth 100000 in
theorem call3_no (h : MR w v l b o) (hl : l.length ≤ 1024) (id tick : Int) (hx : idx id l = -1) : Calls Try.prog 23 #[v, .int .i64 3, .int .i64 id, .int .i64 tick] w (CallPost w v l b o l 14) := by
  have HF := Lib.hid (find_mr h (by omega) id)
  rw [hx] at HF

  have HMR := Lib.hid h
  obtain ⟨A, cap, hv, _⟩ := h.val
  have HL := Lib.hid hl
  obtain ⟨z, HZ⟩ : ∃ z, Hid (l.length = z) := ⟨_, Lib.hid rfl⟩
  rw [HZ.out] at hv
  clear h
  subst hv
  go_enter Try.func23, Try.ntmps23
  go_wp2_with fail
  have hX := HF.out; go_fit hX; clear hX; rintro e w1 ⟨rfl, hb1⟩
  have HB1 := Lib.hid hb1
  clear hb1
  go_wp2
  go_ret2
  exact CallPost.same HMR.out HB1.out
set_option maxHeartbeats 1000000 in
set_option maxRecDepth 100000 in
theorem call3_yes (h : MR w v l b o) (hl : l.length ≤ 1024) (id tick : Int) {p : Nat} (hx : idx id l = p) : Calls Try.prog 23 #[v, .int .i64 3, .int .i64 id, .int .i64 tick] w (CallPost w v l b o (l.eraseIdx p) 0) := by
  have HF := Lib.hid (find_mr h (by omega) id)
  rw [hx] at HF
  have hxz2 : decide ((p : Int) < 0) = false := decide_eq_false (by omega)

  have HMR := Lib.hid h
  obtain ⟨A, cap, hv, _⟩ := h.val
  have HL := Lib.hid hl
  obtain ⟨z, HZ⟩ : ∃ z, Hid (l.length = z) := ⟨_, Lib.hid rfl⟩
  rw [HZ.out] at hv
  clear h
  subst hv
  go_enter Try.func23, Try.ntmps23
  go_wp2_with fail
  have hX := HF.out; go_fit hX; clear hX; rintro e w1 ⟨rfl, hb1⟩
  have HB1 := Lib.hid hb1
  clear hb1
  have HW := Lib.hid (without_mr (HMR.out.below HB1.out) (by have := HL.out; omega) p)
  go_wp2_with fail
  have hX := HW.out; go_fit hX; clear hX; rintro e w2 ⟨v2, b2, rfl, hm, hb', hb2⟩
  have HM := Lib.hid hm
  have HB' := Lib.hid hb'
  have HB2 := Lib.hid hb2
  clear hm hb' hb2
  go_wp2
  go_ret2
  exact CallPost.new HB1.out HM.out HB'.out HB2.out
def callE (l : List (Int × Int)) (kind id tick : Int) : Int := if kind = 1 then setE l id tick else if kind = 2 then moveE l id tick else stopE l id
def callM (l : List (Int × Int)) (kind id tick : Int) : List (Int × Int) := if kind = 1 then setM l id tick else if kind = 2 then moveM l id tick else del l id
theorem okTick_false {tick : Int} (h : okTick tick = false) : tick < 0 ∨ 2199023255552 < tick := by
  unfold okTick at h; simp at h; omega
theorem del_none {l : List (Int × Int)} {id : Int} (h : has l id = false) : del l id = l := by
  unfold del; rw [List.filter_eq_self]; intro x hx; simpa using has_false.1 h x hx
theorem call_c (h : MR w v l b o) (hg : Good l) (kind id tick : Int) (hk : kind = 1 ∨ kind = 2 ∨ kind = 3) :
    Calls Try.prog 23 #[v, .int .i64 kind, .int .i64 id, .int .i64 tick] w (CallPost w v l b o (callM l kind id tick) (callE l kind id tick)) := by
  have hl := hg.len
  have her : ∀ p, (∃ hp : p < l.length, l[p].1 = id) → l.eraseIdx p = del l id := fun p ⟨hp, h1⟩ => erase_ids id l hg.ids p hp h1
  rcases hk with rfl | rfl | rfl
  · unfold callM callE
    rw [if_pos rfl, if_pos rfl]
    cases hok : okTick tick with
    | false =>
      have hE : setE l id tick = 11 := by unfold setE; rw [hok]; rfl
      have hM : setM l id tick = l := by unfold setM; rw [hE]; rfl
      rw [hE, hM]
      rcases okTick_false hok with ht | ht
      · exact call_lo h hl 1 id tick (by decide) ht
      · exact call_hi h hl 1 id tick (by decide) ht
    | true =>
      rcases idx_has id l with ⟨hh, hx⟩ | ⟨hh, hx⟩
      · have hE : setE l id tick = 13 := by unfold setE; rw [hok, hh]; rfl
        have hM : setM l id tick = l := by unfold setM; rw [hE]; rfl
        rw [hE, hM]
        exact call1_has h hl id tick hok hx
      · by_cases hf : 1024 ≤ l.length
        · have hE : setE l id tick = 15 := by unfold setE; rw [hok, hh]; simp [hf]
          have hM : setM l id tick = l := by unfold setM; rw [hE]; rfl
          rw [hE, hM]
          exact call1_full h hl id tick hok hx hf
        · have hE : setE l id tick = 0 := by unfold setE; rw [hok, hh]; simp [hf]
          have hM : setM l id tick = ins l (id, tick) := by unfold setM; rw [hE]; rfl
          rw [hE, hM, ← putR_eq l (id, tick) hg.sorted (has_false.1 hh)]
          exact call1_put h hl id tick hok hx (by omega)
  · unfold callM callE
    simp only [show ¬ ((2 : Int) = 1) by decide, if_false, if_true]
    cases hok : okTick tick with
    | false =>
      have hE : moveE l id tick = 11 := by unfold moveE; rw [hok]; rfl
      have hM : moveM l id tick = l := by unfold moveM; rw [hE]; rfl
      rw [hE, hM]
      rcases okTick_false hok with ht | ht
      · exact call_lo h hl 2 id tick (by decide) ht
      · exact call_hi h hl 2 id tick (by decide) ht
    | true =>
      rcases idx_has id l with ⟨hh, p, hp, h1, h2⟩ | ⟨hh, hx⟩
      · have hE : moveE l id tick = 0 := by unfold moveE; rw [hok, hh]; rfl
        have hM : moveM l id tick = ins (del l id) (id, tick) := by unfold moveM; rw [hE]; rfl
        rw [hE, hM, ← putR_eq (del l id) (id, tick) (hg.filter _).sorted (has_false.1 (has_del l id)), ← her p ⟨hp, h1⟩]
        exact call2_yes h hl id tick hok h2
      · have hE : moveE l id tick = 14 := by unfold moveE; rw [hok, hh]; rfl
        have hM : moveM l id tick = l := by unfold moveM; rw [hE]; rfl
        rw [hE, hM]
        exact call2_no h hl id tick hok hx
  · unfold callM callE
    simp only [show ¬ ((3 : Int) = 1) by decide, show ¬ ((3 : Int) = 2) by decide, if_false]
    rcases idx_has id l with ⟨hh, p, hp, h1, h2⟩ | ⟨hh, hx⟩
    · have hE : stopE l id = 0 := by unfold stopE; rw [hh]; rfl
      rw [hE, ← her p ⟨hp, h1⟩]
      exact call3_yes h hl id tick h2
    · have hE : stopE l id = 14 := by unfold stopE; rw [hh]; rfl
      rw [hE, del_none hh]
      exact call3_no h hl id tick hx
end Go.Proofs.Ytppefdodhbdlpaa.H
namespace Go.Proofs.Ytppefdodhbdlpaa.H
open Go.RowKit Go.Shelf Go.Proofs.YtppefdodhbdlpaaW.PrintWords
set_option linter.unusedVariables false
set_option linter.unusedSimpArgs false
def arrFields (e : TypeId) (n : Nat) (l : List Nat) : List Field := l.map fun i => { name := "x", type := e, offset := i * n, embedded := false, tag := "", pkgPath := "", byteOffset := 0 }
theorem eqA_arr {P : Program} {d : Nat} {xs ys : Array Value} {t e : TypeId} {n len : Nat} {fs : List Field} {r : Bool} {w : World} (hu : P.underlying t = some (.array len e)) (hs : (sizeOf e).run P w = .ok n w) (hf : arrFields e n (List.range' 0 len) = fs) (h : (Op.eqFields d xs ys fs).run P w = .ok r w) : (Op.equalIn (d + 1) t (.agg xs) (.agg ys)).run P w = .ok r w := by
  simp only [Op.equalIn, Sem.run_bind, run_underlying hu, Result.andThen_ok, hs, Std.Legacy.Range.forIn_eq_forIn_range', Std.Legacy.Range.size, Nat.sub_zero, Nat.add_one_sub_one, Nat.div_one]
  rw [← h, ← hf]
  clear h hf hu
  generalize List.range' 0 len = fs
  clear hs
  induction fs generalizing w with
  | nil => simp [Op.eqFields, arrFields]
  | cons f fs ih =>
    have hx : ("x" : String) ≠ "_" := by decide
    simp only [List.forIn_cons, Op.eqFields, arrFields, List.map_cons, Sem.run_bind, if_pos hx]
    generalize (part e xs (f * n)).run P w = r1
    cases r1 with
    | ok a w1 =>
      simp only [Result.andThen_ok]
      generalize (part e ys (f * n)).run P w1 = r2
      cases r2 with
      | ok b w2 =>
        simp only [Result.andThen_ok]
        generalize (Op.equalIn d e a b).run P w2 = r3
        cases r3 with
        | ok r w3 =>
          cases r
          · simp only [Result.andThen_ok, Bool.not_false, if_true, Sem.run_pure]
          · simp only [Result.andThen_ok, Bool.not_true, Bool.false_eq_true, if_false, Sem.run_pure]
            exact ih
        | halt x w3 => simp [Result.andThen]
      | halt x w2 => simp [Result.andThen]
    | halt x w1 => simp [Result.andThen]
set_option maxRecDepth 100000 in
theorem eqA58 (d : Nat) (w : World) (x0 y0 : Int) (x1 y1 : Int) :
    (Op.equalIn (d + 2) 58 (.agg #[.int .i64 x0, .int .i64 x1]) (.agg #[.int .i64 y0, .int .i64 y1])).run Try.prog w = .ok (x0 == y0 && (x1 == y1)) w := by
  refine eqA_arr Try.underlying58 (n := 1) (by rfl) (fs := [⟨"x", 3, 0, false, "", "", 0⟩, ⟨"x", 3, 1, false, "", "", 0⟩]) (by rfl) ?_
  refine eqf_cons (by rfl) (by go_simp; rfl) (by go_simp; rfl) (by go_simp) ?_
  exact eqf_last (by rfl) (by go_simp; rfl) (by go_simp; rfl) (by go_simp)
set_option maxRecDepth 100000 in
theorem neq58_same (a1 a2 : Int) (w : World) : Sem.run Try.prog (binOp .neq 58 (.agg #[.int .i64 a1, .int .i64 a2]) (.agg #[.int .i64 a1, .int .i64 a2])) w = .ok (.bool false) w := by
  have h := fun d w => eqA58 d w a1 a1 a2 a2
  simp only [beq_self_eq_true, Bool.and_self] at h
  go_simp
variable {w : World} {B g : Nat} {ks : Nat → Option Nat} {now n : Int} {m r l : List (Int × Int)} {t : Int × Int} {b o : Nat} {v : Value}
structure Two (W : World) (B g : Nat) (ks : Ks) (m : List (Int × Int)) (now : Int) (v : Value) (b o : Nat) : Prop where
  wh : Wh W B g ks m now
  mr : MR W v m b o
  nb : 0 < m.length → ¬ own g ks b
/-- what a step of both leaves -/
def TwoPost (w : World) (B g : Nat) (ks : Ks) (b : Nat) (X : List (Int × Int) → Int → Prop) (e : Ending) (w' : World) : Prop :=
  ∃ ks' m' now' v' b' o', e = .returned (.tuple #[.agg #[v', .int .i64 now'], .bool true]) ∧ Two w' B g ks' m' now' v' b' o' ∧ Turned w w' (own g ks) ∧ (∀ j, own g ks' j → own g ks j ∨ w.heap.size ≤ j) ∧ (0 < m'.length → b' = b ∧ b < w.heap.size ∨ w.heap.size ≤ b') ∧ X m' now'
theorem MR.tail {A : Option Addr} {cap : Nat} (h : MR w (.slice A (t :: r).length cap) (t :: r) b o) : MR w (.slice (if cap = 1 then A else some ⟨b, o + 2, none⟩) r.length (cap - 1)) r b (o + 2) := by
  obtain ⟨A', cap', he, hc, hm, hA⟩ := h.val
  obtain ⟨rfl, rfl⟩ : A = A' ∧ cap = cap' := by simpa using he
  simp only [List.length_cons] at hc hA
  refine ⟨⟨_, _, rfl, by omega, by omega, fun h0 => by rw [if_neg (by omega)]⟩, fun j hj => ?_⟩
  have := h.cells (j + 1) (by simpa using hj)
  rw [show o + (j + 1) * 2 = o + 2 + j * 2 by omega] at this
  exact this
theorem MR.turned {W : World} {T : Nat → Prop} (h : MR w v l b o) (hT : Turned w W T) (hn : 0 < l.length → ¬ T b) : MR W v l b o := by
  refine ⟨h.val, fun j hj => ?_⟩
  have h0 := h.cells j hj
  have hb := block_lt_of_cell h0.1
  have e := hT.block b hb (hn (by omega))
  exact ⟨(World.cell?_of_block (a := ⟨b, _, none⟩) e).trans h0.1, (World.cell?_of_block (a := ⟨b, _, none⟩) e).trans h0.2⟩
end Go.Proofs.Ytppefdodhbdlpaa.H
