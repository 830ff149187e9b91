import Derived.Test.YtppefdodhbdlpaaVHe
import Derived.Deep.AppendLies
import Derived.Laws.OwnMore
namespace Go.Proofs.Ytppefdodhbdlpaa.H
open Go.RowKit
set_option linter.unusedVariables false
set_option linter.unusedSimpArgs false
variable {w : World} {B g : Nat} {ks : Nat → Option Nat} {vs : Nat → Value} {S : Nat → List (Int × Int)} {now n : Int}
theorem Row.own {v : Value} {xs : List (Int × Int)} {k : Option Nat} (h : Row w B v xs k) : w.ownsRow B 54 2 v xs.length (flat xs) ∧ v.ownBlock = k ∧ xs.length ≤ 1048576 := by
  cases k with
  | none => obtain ⟨rfl, rfl⟩ := h; exact ⟨⟨rfl, .inl ⟨rfl, rfl⟩⟩, rfl, by simp⟩
  | some b =>
    obtain ⟨cap, cs, rfl, hB, hb, hsz, hl, hm, hf, h1⟩ := h
    exact ⟨⟨flat_len xs, .inr ⟨b, cap, cs, rfl, hB, hb, hl, hm, hsz, hf⟩⟩, rfl, h1⟩
theorem Row.of_own {v : Value} {xs : List (Int × Int)} (h : w.ownsRow B 54 2 v xs.length (flat xs)) (hl : xs.length ≤ 1048576) : Row w B v xs v.ownBlock := by
  rcases h.2 with ⟨rfl, h0⟩ | ⟨b, cap, cs, rfl, hB, hb, hlc, hm, hsz, hf⟩
  · exact ⟨rfl, List.length_eq_zero_iff.1 h0⟩
  · exact ⟨cap, cs, rfl, hB, hb, hsz, hlc, hm, hf, hl⟩
theorem flat_append : ∀ (xs ys : List (Int × Int)), flat (xs ++ ys) = flat xs ++ flat ys
  | [], ys => rfl
  | x :: xs, ys => by simp [flat, flat_append xs ys]
theorem info54 : (Try.prog.info? 54).map (fun i => (i.zero, i.size, i.bytes)) = some (some (.agg #[.int .i64 0, .int .i64 0]), 2, 16) := by kernel_rfl
theorem news2 {q : Nat} {x : Int × Int} (h0 : w.cell? ⟨q, 0, none⟩ = some (.int .i64 x.1)) (h1 : w.cell? ⟨q, 1, none⟩ = some (.int .i64 x.2)) : ∀ j u, (flat [x])[j]? = some u → w.cell? ((⟨q, 0, none⟩ : Addr).add j) = some u := by
  intro j u hu
  rw [Addr.add_mid, Nat.zero_add]
  match j, hu with
  | 0, hu => simp [flat] at hu; subst hu; exact h0
  | 1, hu => simp [flat] at hu; subst hu; exact h1
def Mark (p : Prop) : Prop := p
theorem Mark.mk_ {p : Prop} (h : Mark p) : p := h
theorem Mark.un {p : Prop} (h : p) : Mark p := h
def InsPost (w : World) (B : Nat) (ys : List (Int × Int)) (k : Option Nat) (e : Ending) (w' : World) : Prop := ∃ v' k', e = .returned v' ∧ Row w' B v' ys k' ∧ (k' = k ∨ k' = some w.heap.size) ∧ w.grownBy w' k
set_option maxHeartbeats 4000000 in
set_option maxRecDepth 100000 in
theorem insert_end {v : Value} {xs : List (Int × Int)} {k : Option Nat} (h : Row w B v xs k) (x : Int × Int) (q vc : Nat) (hq0 : w.cell? ⟨q, 0, none⟩ = some (.int .i64 x.1)) (hq1 : w.cell? ⟨q, 1, none⟩ = some (.int .i64 x.2)) (hlen : xs.length < 1048576) (hB : B ≤ w.heap.size) :
    Calls Try.prog 33 #[v, .int .i64 xs.length, .slice (some ⟨q, 0, none⟩) 1 vc] w (InsPost w B (xs ++ [x]) k) := by
  obtain ⟨i0, hi0, hz0, hzs, hzb⟩ := info_parts info54
  obtain ⟨hown, hkb, _⟩ := h.own
  have hnews := news2 hq0 hq1
  have HPOST : ∀ g' cap' w1, w1.ownsRow B 54 2 (.slice (some ⟨g', 0, none⟩) (xs.length + 1) cap') (xs.length + 1) (flat xs ++ flat [x]) → w.grownBy w1 v.ownBlock → (v.ownBlock = some g' ∨ g' = w.heap.size) →
      InsPost w B (xs ++ [x]) k (.returned (.slice (some ⟨g', 0, none⟩) (xs.length + 1) cap')) w1 := by
    intro g' cap' w1 ho hg ha
    refine ⟨_, _, rfl, Row.of_own (xs := xs ++ [x]) (by rw [flat_append, List.length_append]; exact ho) (by simp; omega), ?_, hkb ▸ hg⟩
    rcases ha with ha | ha
    · exact .inl (by rw [← hkb, ha]; rfl)
    · exact .inr (by rw [← ha]; rfl)
  obtain ⟨A, cap, rfl⟩ := h.form
  have hcap : xs.length ≤ cap := by
    cases k with
    | none => obtain ⟨h1, h2⟩ := h; subst h2; simp
    | some b => obtain ⟨cap2, cs, h1, h2, h3, h4, h5, _⟩ := h; simp at h1; omega
  obtain ⟨n, HN⟩ : ∃ n, Hid (xs.length = n) := ⟨_, Lib.hid rfl⟩
  rw [HN.out] at hown HPOST hcap hlen ⊢
  have HP : Aside (∀ g' cap' w1, w1.ownsRow B 54 2 (.slice (some ⟨g', 0, none⟩) (n + 1) cap') (n + 1) (flat xs ++ flat [x]) → w.grownBy w1 (Value.slice A n cap).ownBlock → ((Value.slice A n cap).ownBlock = some g' ∨ g' = w.heap.size) → InsPost w B (xs ++ [x]) k (.returned (.slice (some ⟨g', 0, none⟩) (n + 1) cap')) w1) := HPOST
  have HO : Aside (w.ownsRow B 54 2 (.slice A n cap) n (flat xs)) := hown
  have HNEW : Aside (∀ j u, (flat [x])[j]? = some u → w.cell? ((⟨q, 0, none⟩ : Addr).add j) = some u) := hnews
  have hA : A = none → n = 0 ∧ cap = 0 := by
    intro e; subst e
    rcases hown.2 with ⟨h1, h2⟩ | ⟨_, _, _, h1, _⟩
    · simp at h1; exact h1
    · simp at h1
  clear hnews HPOST hq0 hq1 hkb h hown
  cases A with
  | none =>
    obtain ⟨rfl, rfl⟩ := hA rfl
    go_enter Try.func33, Try.ntmps33
    go_wp2_with ((with_reducible refine at_dst (N := 25) rfl ?_); refine Mark.mk_ ?_)
    refine Mark.un ?_
    refine wpList_append_lies _ rfl _ _ 47 rfl B 54 i0 _ 2 16 Try.underlying47 hi0 hz0 hzs hzb rfl (by decide) _ 0 (flat xs) rfl HO.out ⟨q, 0, none⟩ 1 vc (flat [x]) rfl rfl HNEW.out (by simp [flat, Value.oneCell']) (by decide) (by unfold maxLen; omega) (by omega) hB w.heap.size rfl ?_
    intro g' cap' w1 ho hg ha hlt
    have HPP := HP.out g' cap' w1 ho hg ha
    clear ho hg ha
    go_wp2
    go_ret
    exact HPP
  | some ad =>
    obtain ⟨b, rfl⟩ : ∃ b, ad = ⟨b, 0, none⟩ := by
      rcases HO.out.2 with ⟨h1, _⟩ | ⟨b, _, _, h1, _⟩
      · simp at h1
      · simp at h1; exact ⟨b, h1.1⟩
    clear hA
    have hcz : (n : Int) ≤ (cap : Int) := by omega
    have hlz : (n : Int) < 1048576 := by omega
    have e0 : (0 : Int) ≤ (n : Int) := by omega
    by_cases hcn : cap = n
    · subst hcn
      go_enter Try.func33, Try.ntmps33
      go_wp2_with ((with_reducible refine at_dst (N := 25) rfl ?_); refine Mark.mk_ ?_)
      refine Mark.un ?_
      refine wpList_append_lies _ rfl _ _ 47 rfl B 54 i0 _ 2 16 Try.underlying47 hi0 hz0 hzs hzb rfl (by decide) _ cap (flat xs) rfl HO.out ⟨q, 0, none⟩ 1 vc (flat [x]) rfl rfl HNEW.out (by simp [flat, Value.oneCell']) (by decide) (by unfold maxLen; omega) (by omega) hB w.heap.size rfl ?_
      intro g' cap' w1 ho hg ha hlt
      have HPP := HP.out g' cap' w1 ho hg ha
      clear ho hg ha
      go_wp2
      go_ret
      exact HPP
    · have hcn2 : ¬ n = cap := fun e => hcn e.symm
      go_enter Try.func33, Try.ntmps33
      go_wp2_with ((with_reducible refine at_dst (N := 25) rfl ?_); refine Mark.mk_ ?_)
      refine Mark.un ?_
      refine wpList_append_lies _ rfl _ _ 47 rfl B 54 i0 _ 2 16 Try.underlying47 hi0 hz0 hzs hzb rfl (by decide) _ n (flat xs) rfl HO.out ⟨q, 0, none⟩ 1 vc (flat [x]) rfl rfl HNEW.out (by simp [flat, Value.oneCell']) (by decide) (by unfold maxLen; omega) (by omega) hB w.heap.size rfl ?_
      intro g' cap' w1 ho hg ha hlt
      have HPP := HP.out g' cap' w1 ho hg ha
      clear ho hg ha
      go_wp2
      go_ret
      exact HPP
end Go.Proofs.Ytppefdodhbdlpaa.H
