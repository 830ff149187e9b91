/- Proved: a copy tells the same, and goes on by itself, its history too (for every input that the statement's guards let in; the Go function returns true and leaves its arguments as they were). -/
import Derived.Test.YtobipigioaoaiaaPDetectCopiesx12
set_option linter.unusedVariables false
set_option linter.unusedSimpArgs false
namespace Go.Proofs.Ytobipigioaoaiaa.Pure
open Go.RowKit Go.Proofs.Ytobipigioaoaiaa.PDetectCopies Go.Proofs.YtobipigioaoaiaaW.PrintWords Go.Proofs.YtobipigioaoaiaaW.PrintLast Go.Proofs.YtobipigioaoaiaaW.PrintMore

theorem wf_u8 {a : Int} (h : (Lit.int .u8 a).wf = true) : 0 ≤ a ∧ a ≤ 255 := by
  simpa [Lit.wf, IntKind.min, IntKind.max, IntKind.signed, IntKind.bits] using h
theorem wf_u16 {a : Int} (h : (Lit.int .u16 a).wf = true) : 0 ≤ a ∧ a ≤ 65535 := by
  simpa [Lit.wf, IntKind.min, IntKind.max, IntKind.signed, IntKind.bits] using h
theorem wf_u32 {a : Int} (h : (Lit.int .u32 a).wf = true) : 0 ≤ a ∧ a ≤ 4294967295 := by
  simpa [Lit.wf, IntKind.min, IntKind.max, IntKind.signed, IntKind.bits] using h
theorem wf_u64 {a : Int} (h : (Lit.int .u64 a).wf = true) : 0 ≤ a ∧ a ≤ 18446744073709551615 := by
  simpa [Lit.wf, IntKind.min, IntKind.max, IntKind.signed, IntKind.bits] using h
theorem wf_i64 {a : Int} (h : (Lit.int .i64 a).wf = true) : -9223372036854775808 ≤ a ∧ a ≤ 9223372036854775807 := by
  simpa [Lit.wf, IntKind.min, IntKind.max, IntKind.signed, IntKind.bits] using h
theorem w64 {n : Int} (h : -9223372036854775808 ≤ n) (h' : n ≤ 9223372036854775807) : wrap64 n = n := by
  unfold wrap64; omega
theorem fuel {k n : Nat} (h : n < k) : ∃ m, k = m + 1 ∧ n ≤ m := ⟨k - 1, by omega, by omega⟩
theorem u64 {n : Int} (h : 0 ≤ n) (h' : n ≤ 18446744073709551615) : IntKind.u64.wrap n = n := by
  simp only [IntKind.wrap, IntKind.bits, IntKind.signed]; simp; omega
theorem wu (n : Int) : IntKind.u64.wrap n = n % 18446744073709551616 := by
  simp [IntKind.wrap, IntKind.bits, IntKind.signed]
theorem wraps_u64 (n : Int) (h0 : 0 ≤ n) (h1 : n < 2 ^ 64) : IntKind.u64.wrap n = n := by rw [wu]; omega
theorem and32 (x : Int) (h0 : 0 ≤ x) (h1 : x < 18446744073709551616) : Go.bits .and .u64 x 4294967295 = x % 4294967296 :=
  bits_mask .u64 64 (by decide) wraps_u64 32 (by decide) x h0 h1
theorem or_join (i : Nat) (x y : Int) (h0 : 0 ≤ x) (h1 : x % 2 ^ i = 0) (h2 : x < 18446744073709551616) (h3 : 0 ≤ y) (h4 : y < 2 ^ i) (h5 : y < 18446744073709551616) : Go.bits .or .u64 x y = x + y :=
  bits_join .u64 64 (by decide) wraps_u64 i x y h0 h1 h2 h3 h4 h5
theorem shl_u (x y : Int) (h0 : 0 ≤ y) (h1 : y ≤ 64) : shl .u64 x y = (x * 2 ^ y.toNat) % 18446744073709551616 := by
  unfold shl; rw [wu, show min y.toNat (IntKind.bits .u64) = y.toNat from Nat.min_eq_left (by simp [IntKind.bits]; omega)]
theorem shr_u (x y : Int) (h0 : 0 ≤ y) (h1 : y ≤ 64) : shr .u64 x y = x / 2 ^ y.toNat := by
  unfold shr; rw [show min y.toNat (IntKind.bits .u64) = y.toNat from Nat.min_eq_left (by simp [IntKind.bits]; omega)]
/-- one call behind another (no unfolding: the kernel need not look into what is called) -/
theorem bs {α β : Type} {x : Option α} {f : α → Option β} {a : α} {r : Option β} (h : x = some a) (h2 : f a = r) : x.bind f = r := by
  subst h; exact h2
theorem awake15_k {k : Nat} (hk : 1000 ≤ k) : terracelaw15_awake.f k = some true :=
  at_rounds (g := fun k => terracelaw15_awake.f k) (fun k => terracelaw15_awake.mono k) hk (by decide +kernel)
theorem has15 {a : Int} (h : 0 ≤ a ∧ a < 8) : detect_has.f a = some true := by
  unfold detect_has.f; rw [if_pos (by omega)]; simp; omega
theorem time15 {a : Int} (h : 0 ≤ a ∧ a ≤ 1099511627776) : detect_time.f a = some true := by
  unfold detect_time.f; rw [if_pos (by omega)]; simp; omega
def gp (x y : Int) : Int := if (y - x) % 4294967296 = 2147483648 then 0 else wrap64 (wrap32 ((y - x) % 4294967296))
theorem gap15 (x y : Int) : serial_Gap.f x y = some (gp x y) := by
  unfold serial_Gap.f gp; split <;> rfl
def pk (o n : Int) : Int := if n < 0 then o else if n > 65536 then o else if wrap64 (o + n) > 1048576 then o else wrap64 (o + n)
theorem packet15 (o : Int) (c : List Int) (n : Int) : ∃ e, history_History_Packet.f o c n = some (e, pk o n, c) := by
  unfold history_History_Packet.f pk
  by_cases c1 : n < 0
  · rw [if_pos c1, if_pos c1]; exact ⟨_, rfl⟩
  rw [if_neg c1, if_neg c1]
  by_cases c2 : n > 65536
  · rw [if_pos c2, if_pos c2]; exact ⟨_, rfl⟩
  rw [if_neg c2, if_neg c2]
  by_cases c3 : wrap64 (o + n) > 1048576
  · rw [if_pos c3, if_pos c3]; exact ⟨_, rfl⟩
  · rw [if_neg c3, if_neg c3]; exact ⟨_, rfl⟩
theorem take_mn (l : List Int) : l.take ((mn (l.length : Int) 8) : Int).toNat = l.take 8 ∧ 0 ≤ mn (l.length : Int) 8 ∧ mn (l.length : Int) 8 ≤ (l.length : Int) := by
  unfold mn
  split
  · exact ⟨rfl, by omega, by omega⟩
  · refine ⟨?_, by omega, by omega⟩
    rw [Int.toNat_natCast, List.take_of_length_le (Nat.le_refl _), List.take_of_length_le (by omega)]
theorem loss15 (o : Int) {c : List Int} (hc : c.length ≤ 8) : history_History_Loss.f o c = some (((c.length : Int) == 0), 0, (o :: c).take 8) := by
  unfold history_History_Loss.f
  have e : slices_Insert_int_int.f c 0 [o] = some (o :: c) := by
    unfold slices_Insert_int_int.f
    rw [if_pos ⟨rfl, rfl, by omega⟩]; rfl
  refine bs e ?_
  obtain ⟨e1, e2, e3⟩ := take_mn (o :: c)
  rw [if_pos e2, if_pos e3, e1]
theorem lose15 (n0 : Int) (o0 : Bool) (n1 : Int) (o1 : Bool) (n2 : Int) (o2 : Bool) (n3 : Int) (o3 : Bool) (n4 : Int) (o4 : Bool) (n5 : Int) (o5 : Bool) (n6 : Int) (o6 : Bool) (n7 : Int) (o7 : Bool) (h : Int) {c : List Int} (l b : Int) (s : Bool) (hc : c.length ≤ 8) (g t r : Int) :
    ∃ (ev : Bool) (h' : Int) (c' : List Int) (b' : Int) (s' : Bool),
      detect_Detect_lose.f n0 o0 n1 o1 n2 o2 n3 o3 n4 o4 n5 o5 n6 o6 n7 o7 h c l b s g t r = some (g, ev, ev && ((c.length : Int) == 0), n0, o0, n1, o1, n2, o2, n3, o3, n4, o4, n5, o5, n6, o6, n7, o7, h', c', l, b', s') ∧
      ev = (!s || decide (wrap64 (t - b) > r)) ∧ c'.length ≤ 8 ∧ (ev = true → b' = t ∧ s' = true ∧ c'.length ≠ 0) ∧ (ev = false → c' = c ∧ b' = b ∧ s' = s) := by
  have ht : ((h :: c).take 8).length ≤ 8 ∧ ((h :: c).take 8).length ≠ 0 := by
    rw [List.length_take, List.length_cons]; omega
  unfold detect_Detect_lose.f
  cases s
  · rw [if_neg (by simp), loss15 h hc]
    exact ⟨true, 0, _, t, true, by simp, by simp, ht.1, fun _ => ⟨rfl, rfl, ht.2⟩, by simp⟩
  · rw [if_pos rfl]
    by_cases c1 : wrap64 (t - b) > r
    · rw [if_pos c1, loss15 h hc]
      exact ⟨true, 0, _, t, true, by simp [c1], by simp [c1], ht.1, fun _ => ⟨rfl, rfl, ht.2⟩, by simp⟩
    · rw [if_neg c1]
      exact ⟨false, h, c, b, true, by simp [c1], by simp [c1], hc, by simp, fun _ => ⟨rfl, rfl, rfl⟩⟩
theorem took15 (n0 : Int) (o0 : Bool) (n1 : Int) (o1 : Bool) (n2 : Int) (o2 : Bool) (n3 : Int) (o3 : Bool) (n4 : Int) (o4 : Bool) (n5 : Int) (o5 : Bool) (n6 : Int) (o6 : Bool) (n7 : Int) (o7 : Bool) (h : Int) (c : List Int) (l b : Int) (s : Bool) {a : Int} (ha : 0 ≤ a ∧ a < 8) (q n : Int) :
    ∃ (p0 : Int) (q0 : Bool) (p1 : Int) (q1 : Bool) (p2 : Int) (q2 : Bool) (p3 : Int) (q3 : Bool) (p4 : Int) (q4 : Bool) (p5 : Int) (q5 : Bool) (p6 : Int) (q6 : Bool) (p7 : Int) (q7 : Bool) (h' : Int), detect_Detect_took.f n0 o0 n1 o1 n2 o2 n3 o3 n4 o4 n5 o5 n6 o6 n7 o7 h c l b s a q n = some (p0, q0, p1, q1, p2, q2, p3, q3, p4, q4, p5, q5, p6, q6, p7, q7, h', c, l, b, s) := by
  obtain ⟨e1, h1⟩ := packet15 h c n
  obtain ⟨e2, h2⟩ := packet15 (pk h n) c 1
  unfold detect_Detect_took.f
  simp only [serial_Next.f, Option.bind_some, h1, h2]
  rcases (show a = 0 ∨ a = 1 ∨ a = 2 ∨ a = 3 ∨ a = 4 ∨ a = 5 ∨ a = 6 ∨ a = 7 by omega) with rfl | rfl | rfl | rfl | rfl | rfl | rfl | rfl <;>
    exact ⟨_, _, _, _, _, _, _, _, _, _, _, _, _, _, _, _, _, rfl⟩
theorem on_j1 (n0 : Int) (o0 : Bool) (n1 : Int) (o1 : Bool) (n2 : Int) (o2 : Bool) (n3 : Int) (o3 : Bool) (n4 : Int) (o4 : Bool) (n5 : Int) (o5 : Bool) (n6 : Int) (o6 : Bool) (n7 : Int) (o7 : Bool) (h : Int) (c : List Int) (l b : Int) (s : Bool) {a : Int} (ha : 0 ≤ a ∧ a < 8) (q : Int) {t r : Int} (ht : 0 ≤ t ∧ t ≤ 1099511627776) (hr : 0 ≤ r ∧ r ≤ 1099511627776) (hl : l ≤ t) (k : Nat) :
    detect_Detect_On.f (k + 1) n0 o0 n1 o1 n2 o2 n3 o3 n4 o4 n5 o5 n6 o6 n7 o7 h c l b s a q t r =
      detect_Detect_On.j1 k a q t r (gp (rd ([n0, n1, n2, n3, n4, n5, n6, n7] : List Int) a) q) (!(rdOf false ([o0, o1, o2, o3, o4, o5, o6, o7] : List Bool) a) || decide (q = rd ([n0, n1, n2, n3, n4, n5, n6, n7] : List Int) a) || decide (gp (rd ([n0, n1, n2, n3, n4, n5, n6, n7] : List Int) a) q > 256)) n0 o0 n1 o1 n2 o2 n3 o3 n4 o4 n5 o5 n6 o6 n7 o7 t b s h c 0 false false := by
  unfold detect_Detect_On.f
  rw [has15 ha]; refine bs rfl ?_
  rw [if_pos rfl, time15 ht]; refine bs rfl ?_
  rw [if_pos rfl, time15 hr]; refine bs rfl ?_
  simp only [detect_Detect_On.j0]
  rw [if_neg (by simp), if_neg (by omega), if_pos ha.1, if_pos ha.2, gap15]
  refine bs rfl ?_
  by_cases c1 : rdOf false ([o0, o1, o2, o3, o4, o5, o6, o7] : List Bool) a = true
  · rw [if_pos c1]
    by_cases c2 : q = rd ([n0, n1, n2, n3, n4, n5, n6, n7] : List Int) a
    · rw [if_pos c2, show (!(rdOf false ([o0, o1, o2, o3, o4, o5, o6, o7] : List Bool) a) || decide (q = rd ([n0, n1, n2, n3, n4, n5, n6, n7] : List Int) a) || decide (gp (rd ([n0, n1, n2, n3, n4, n5, n6, n7] : List Int) a) q > 256)) = true from by rw [decide_eq_true c2]; simp]
    · rw [if_neg c2, show (!(rdOf false ([o0, o1, o2, o3, o4, o5, o6, o7] : List Bool) a) || decide (q = rd ([n0, n1, n2, n3, n4, n5, n6, n7] : List Int) a) || decide (gp (rd ([n0, n1, n2, n3, n4, n5, n6, n7] : List Int) a) q > 256)) = decide (gp (rd ([n0, n1, n2, n3, n4, n5, n6, n7] : List Int) a) q > 256) from by rw [decide_eq_false c2, c1]; simp]
  · rw [if_neg c1, show (!(rdOf false ([o0, o1, o2, o3, o4, o5, o6, o7] : List Bool) a) || decide (q = rd ([n0, n1, n2, n3, n4, n5, n6, n7] : List Int) a) || decide (gp (rd ([n0, n1, n2, n3, n4, n5, n6, n7] : List Int) a) q > 256)) = true from by rw [Bool.eq_false_iff.2 c1]; simp]
theorem on15 (n0 : Int) (o0 : Bool) (n1 : Int) (o1 : Bool) (n2 : Int) (o2 : Bool) (n3 : Int) (o3 : Bool) (n4 : Int) (o4 : Bool) (n5 : Int) (o5 : Bool) (n6 : Int) (o6 : Bool) (n7 : Int) (o7 : Bool) (h : Int) {c : List Int} (l b : Int) (s : Bool) (hc : c.length ≤ 8) {a : Int} (ha : 0 ≤ a ∧ a < 8) (q : Int) {t r : Int} (ht : 0 ≤ t ∧ t ≤ 1099511627776) (hr : 0 ≤ r ∧ r ≤ 1099511627776) (hl : l ≤ t) {k : Nat} (hk : 3 < k) :
    ∃ (g : Int) (ev : Bool) (p0 : Int) (q0 : Bool) (p1 : Int) (q1 : Bool) (p2 : Int) (q2 : Bool) (p3 : Int) (q3 : Bool) (p4 : Int) (q4 : Bool) (p5 : Int) (q5 : Bool) (p6 : Int) (q6 : Bool) (p7 : Int) (q7 : Bool) (h' : Int) (c' : List Int) (b' : Int) (s' : Bool),
      detect_Detect_On.f k n0 o0 n1 o1 n2 o2 n3 o3 n4 o4 n5 o5 n6 o6 n7 o7 h c l b s a q t r = some (g, ev, ev && ((c.length : Int) == 0), 0, p0, q0, p1, q1, p2, q2, p3, q3, p4, q4, p5, q5, p6, q6, p7, q7, h', c', t, b', s') ∧
      0 ≤ g ∧ ev = (decide (g > 0) && (!s || decide (wrap64 (t - b) > r))) ∧ c'.length ≤ 8 ∧ (ev = true → b' = t ∧ s' = true ∧ c'.length ≠ 0) ∧ (ev = false → c' = c ∧ b' = b ∧ s' = s) := by
  obtain ⟨k, rfl, hk⟩ := fuel hk
  obtain ⟨k, rfl, hk⟩ := fuel (show 2 < k by omega)
  rw [on_j1 n0 o0 n1 o1 n2 o2 n3 o3 n4 o4 n5 o5 n6 o6 n7 o7 h c l b s ha q ht hr hl]
  generalize (!(rdOf false ([o0, o1, o2, o3, o4, o5, o6, o7] : List Bool) a) || decide (q = rd ([n0, n1, n2, n3, n4, n5, n6, n7] : List Int) a) || decide (gp (rd ([n0, n1, n2, n3, n4, n5, n6, n7] : List Int) a) q > 256)) = t52
  generalize gp (rd ([n0, n1, n2, n3, n4, n5, n6, n7] : List Int) a) q = g
  simp only [detect_Detect_On.j1]
  cases t52
  · rw [if_neg (by simp)]
    by_cases cg : g > 0
    · rw [if_pos cg]
      obtain ⟨ev, h', c', b', s', e, h1, h2, h3, h4⟩ := lose15 n0 o0 n1 o1 n2 o2 n3 o3 n4 o4 n5 o5 n6 o6 n7 o7 h t b s hc g t r
      simp only [e, Option.bind_some]
      obtain ⟨p0, q0, p1, q1, p2, q2, p3, q3, p4, q4, p5, q5, p6, q6, p7, q7, h2', e2⟩ := took15 n0 o0 n1 o1 n2 o2 n3 o3 n4 o4 n5 o5 n6 o6 n7 o7 h' c' t b' s' ha q g
      simp only [e2, Option.bind_some]
      exact ⟨g, ev, p0, q0, p1, q1, p2, q2, p3, q3, p4, q4, p5, q5, p6, q6, p7, q7, h2', c', b', s', rfl, by omega, by rw [h1, decide_eq_true cg]; simp, h2, h3, h4⟩
    · rw [if_neg cg]
      exact ⟨0, false, n0, o0, n1, o1, n2, o2, n3, o3, n4, o4, n5, o5, n6, o6, n7, o7, h, c, b, s, rfl, by omega, by simp, hc, by simp, fun _ => ⟨rfl, rfl, rfl⟩⟩
  · rw [if_pos rfl]
    obtain ⟨p0, q0, p1, q1, p2, q2, p3, q3, p4, q4, p5, q5, p6, q6, p7, q7, h2', e2⟩ := took15 n0 o0 n1 o1 n2 o2 n3 o3 n4 o4 n5 o5 n6 o6 n7 o7 h c t b s ha q 0
    simp only [e2, Option.bind_some]
    exact ⟨0, false, p0, q0, p1, q1, p2, q2, p3, q3, p4, q4, p5, q5, p6, q6, p7, q7, h2', c, b, s, rfl, by omega, by simp, hc, by simp, fun _ => ⟨rfl, rfl, rfl⟩⟩
def Pt (n : Int) (o : Bool) (a : Int) : Prop := (o = true ∧ a = n ∧ 0 ≤ n ∧ n < 4294967296) ∨ (o = false ∧ a = -1 ∧ n = 0)
def PtS (n0 : Int) (o0 : Bool) (n1 : Int) (o1 : Bool) (n2 : Int) (o2 : Bool) (n3 : Int) (o3 : Bool) (n4 : Int) (o4 : Bool) (n5 : Int) (o5 : Bool) (n6 : Int) (o6 : Bool) (n7 : Int) (o7 : Bool) (a0 a1 a2 a3 a4 a5 a6 a7 : Int) : Prop := Pt n0 o0 a0 ∧ Pt n1 o1 a1 ∧ Pt n2 o2 a2 ∧ Pt n3 o3 a3 ∧ Pt n4 o4 a4 ∧ Pt n5 o5 a5 ∧ Pt n6 o6 a6 ∧ Pt n7 o7 a7
theorem pt_set {n a : Int} {o : Bool} {P : Prop} [Decidable P] {e : Int} (h : Pt n o a) (he : 0 ≤ e ∧ e < 4294967296) : Pt (if P then e else n) (if P then true else o) (if P then e else a) := by
  by_cases c : P
  · simp only [if_pos c]; exact .inl ⟨rfl, rfl, he⟩
  · simp only [if_neg c]; exact h
theorem pt_clr {n a : Int} {o : Bool} {P : Prop} [Decidable P] (h : Pt n o a) : Pt (if P then 0 else n) (if P then false else o) (if P then (-1) else a) := by
  by_cases c : P
  · simp only [if_pos c]; exact .inr ⟨rfl, rfl, rfl⟩
  · simp only [if_neg c]; exact h
theorem pts_set {n0 : Int} {o0 : Bool} {n1 : Int} {o1 : Bool} {n2 : Int} {o2 : Bool} {n3 : Int} {o3 : Bool} {n4 : Int} {o4 : Bool} {n5 : Int} {o5 : Bool} {n6 : Int} {o6 : Bool} {n7 : Int} {o7 : Bool} {a0 a1 a2 a3 a4 a5 a6 a7 : Int} (h : PtS n0 o0 n1 o1 n2 o2 n3 o3 n4 o4 n5 o5 n6 o6 n7 o7 a0 a1 a2 a3 a4 a5 a6 a7) (a q : Int) : PtS (if a = 0 then (q + 1) % 4294967296 else n0) (if a = 0 then true else o0) (if a = 1 then (q + 1) % 4294967296 else n1) (if a = 1 then true else o1) (if a = 2 then (q + 1) % 4294967296 else n2) (if a = 2 then true else o2) (if a = 3 then (q + 1) % 4294967296 else n3) (if a = 3 then true else o3) (if a = 4 then (q + 1) % 4294967296 else n4) (if a = 4 then true else o4) (if a = 5 then (q + 1) % 4294967296 else n5) (if a = 5 then true else o5) (if a = 6 then (q + 1) % 4294967296 else n6) (if a = 6 then true else o6) (if a = 7 then (q + 1) % 4294967296 else n7) (if a = 7 then true else o7) (if a = 0 then (q + 1) % 4294967296 else a0) (if a = 1 then (q + 1) % 4294967296 else a1) (if a = 2 then (q + 1) % 4294967296 else a2) (if a = 3 then (q + 1) % 4294967296 else a3) (if a = 4 then (q + 1) % 4294967296 else a4) (if a = 5 then (q + 1) % 4294967296 else a5) (if a = 6 then (q + 1) % 4294967296 else a6) (if a = 7 then (q + 1) % 4294967296 else a7) := by
  have hq : 0 ≤ (q + 1) % 4294967296 ∧ (q + 1) % 4294967296 < 4294967296 := by omega
  obtain ⟨h0, h1, h2, h3, h4, h5, h6, h7⟩ := h
  exact ⟨pt_set h0 hq, pt_set h1 hq, pt_set h2 hq, pt_set h3 hq, pt_set h4 hq, pt_set h5 hq, pt_set h6 hq, pt_set h7 hq⟩
theorem pts_clr {n0 : Int} {o0 : Bool} {n1 : Int} {o1 : Bool} {n2 : Int} {o2 : Bool} {n3 : Int} {o3 : Bool} {n4 : Int} {o4 : Bool} {n5 : Int} {o5 : Bool} {n6 : Int} {o6 : Bool} {n7 : Int} {o7 : Bool} {a0 a1 a2 a3 a4 a5 a6 a7 : Int} (h : PtS n0 o0 n1 o1 n2 o2 n3 o3 n4 o4 n5 o5 n6 o6 n7 o7 a0 a1 a2 a3 a4 a5 a6 a7) (a : Int) : PtS (if a = 0 then 0 else n0) (if a = 0 then false else o0) (if a = 1 then 0 else n1) (if a = 1 then false else o1) (if a = 2 then 0 else n2) (if a = 2 then false else o2) (if a = 3 then 0 else n3) (if a = 3 then false else o3) (if a = 4 then 0 else n4) (if a = 4 then false else o4) (if a = 5 then 0 else n5) (if a = 5 then false else o5) (if a = 6 then 0 else n6) (if a = 6 then false else o6) (if a = 7 then 0 else n7) (if a = 7 then false else o7) (if a = 0 then (-1) else a0) (if a = 1 then (-1) else a1) (if a = 2 then (-1) else a2) (if a = 3 then (-1) else a3) (if a = 4 then (-1) else a4) (if a = 5 then (-1) else a5) (if a = 6 then (-1) else a6) (if a = 7 then (-1) else a7) := by
  obtain ⟨h0, h1, h2, h3, h4, h5, h6, h7⟩ := h
  exact ⟨pt_clr h0, pt_clr h1, pt_clr h2, pt_clr h3, pt_clr h4, pt_clr h5, pt_clr h6, pt_clr h7⟩
theorem pts_rd {n0 : Int} {o0 : Bool} {n1 : Int} {o1 : Bool} {n2 : Int} {o2 : Bool} {n3 : Int} {o3 : Bool} {n4 : Int} {o4 : Bool} {n5 : Int} {o5 : Bool} {n6 : Int} {o6 : Bool} {n7 : Int} {o7 : Bool} {a0 a1 a2 a3 a4 a5 a6 a7 : Int} (h : PtS n0 o0 n1 o1 n2 o2 n3 o3 n4 o4 n5 o5 n6 o6 n7 o7 a0 a1 a2 a3 a4 a5 a6 a7) {a : Int} (ha : 0 ≤ a ∧ a < 8) : Pt (rd ([n0, n1, n2, n3, n4, n5, n6, n7] : List Int) a) (rdOf false ([o0, o1, o2, o3, o4, o5, o6, o7] : List Bool) a) (rd ([a0, a1, a2, a3, a4, a5, a6, a7] : List Int) a) := by
  obtain ⟨h0, h1, h2, h3, h4, h5, h6, h7⟩ := h
  rcases (show a = 0 ∨ a = 1 ∨ a = 2 ∨ a = 3 ∨ a = 4 ∨ a = 5 ∨ a = 6 ∨ a = 7 by omega) with rfl | rfl | rfl | rfl | rfl | rfl | rfl | rfl
  · exact h0
  · exact h1
  · exact h2
  · exact h3
  · exact h4
  · exact h5
  · exact h6
  · exact h7
theorem pk_le {o n : Int} (ho : 0 ≤ o ∧ o ≤ 1048576) (hn : 0 ≤ n ∧ n ≤ 256) : 0 ≤ pk o n ∧ pk o n ≤ 1048576 := by
  unfold pk
  rw [if_neg (by omega), if_neg (by omega), w64 (by omega) (by omega)]
  split <;> omega
theorem pk_0 {o : Int} (ho : 0 ≤ o ∧ o ≤ 1048576) : pk o 0 = o := by
  unfold pk
  rw [if_neg (by omega), if_neg (by omega), w64 (by omega) (by omega), if_neg (by omega)]; omega
theorem count_eq (a0 a1 a2 a3 a4 a5 a6 a7 : Int) {o : Int} (c : List Int) (b : Int) (s : Bool) (l : Int) {n : Int} (ho : 0 ≤ o ∧ o ≤ 1048576) (hn : 0 ≤ n ∧ n ≤ 256) :
    terraceref15_count.f a0 a1 a2 a3 a4 a5 a6 a7 o c b s l n = some (a0, a1, a2, a3, a4, a5, a6, a7, pk o n, c, b, s, l) := by
  unfold terraceref15_count.f pk
  rw [if_neg (show ¬ n < 0 by omega), if_neg (show ¬ n > 65536 by omega), w64 (by omega) (by omega)]
  by_cases c1 : o + n ≤ 1048576
  · rw [if_pos c1, if_neg (by omega)]
  · rw [if_neg c1, if_pos (by omega)]
theorem gap_ref {x y : Int} (hx : 0 ≤ x ∧ x < 4294967296) (hy : 0 ≤ y ∧ y < 4294967296) : terraceref05_Gap.f (x % 4294967296) y = some (gp x y) := by
  have e : terraceref05_Steps.f (x % 4294967296) y = some ((y - x) % 4294967296) := by
    unfold terraceref05_Steps.f
    rw [show x % 4294967296 = x by omega, w64 (n := y) (by omega) (by omega), w64 (n := x) (by omega) (by omega), w64 (n := y - x) (by omega) (by omega)]
    by_cases c1 : y - x < 0
    · rw [if_pos c1, w64 (by omega) (by omega)]; congr 1; omega
    · rw [if_neg c1]; congr 1; omega
  unfold terraceref05_Gap.f gp
  refine bs e ?_
  have hd : 0 ≤ (y - x) % 4294967296 ∧ (y - x) % 4294967296 < 4294967296 := by omega
  generalize (y - x) % 4294967296 = d at hd
  by_cases c1 : d = 2147483648
  · rw [if_pos c1, if_pos c1]
  rw [if_neg c1, if_neg c1]
  by_cases c2 : d > 2147483648
  · rw [if_pos c2, w64 (n := d - 4294967296) (by omega) (by omega), show wrap32 d = d - 4294967296 by unfold wrap32; omega, w64 (by omega) (by omega)]
  · rw [if_neg c2, show wrap32 d = d by unfold wrap32; omega, w64 (by omega) (by omega)]
theorem gp_le (x y : Int) : gp x y ≤ 2147483647 := by
  unfold gp
  split
  · omega
  · have : wrap32 ((y - x) % 4294967296) ≤ 2147483647 ∧ -2147483648 ≤ wrap32 ((y - x) % 4294967296) := by unfold wrap32; omega
    rw [w64 (by omega) (by omega)]; exact this.1
theorem took_eq (n0 : Int) (o0 : Bool) (n1 : Int) (o1 : Bool) (n2 : Int) (o2 : Bool) (n3 : Int) (o3 : Bool) (n4 : Int) (o4 : Bool) (n5 : Int) (o5 : Bool) (n6 : Int) (o6 : Bool) (n7 : Int) (o7 : Bool) (h : Int) (c : List Int) (l b : Int) (s : Bool) {a : Int} (ha : 0 ≤ a ∧ a < 8) (q n : Int) :
    detect_Detect_took.f n0 o0 n1 o1 n2 o2 n3 o3 n4 o4 n5 o5 n6 o6 n7 o7 h c l b s a q n = some (if a = 0 then (q + 1) % 4294967296 else n0, if a = 0 then true else o0, if a = 1 then (q + 1) % 4294967296 else n1, if a = 1 then true else o1, if a = 2 then (q + 1) % 4294967296 else n2, if a = 2 then true else o2, if a = 3 then (q + 1) % 4294967296 else n3, if a = 3 then true else o3, if a = 4 then (q + 1) % 4294967296 else n4, if a = 4 then true else o4, if a = 5 then (q + 1) % 4294967296 else n5, if a = 5 then true else o5, if a = 6 then (q + 1) % 4294967296 else n6, if a = 6 then true else o6, if a = 7 then (q + 1) % 4294967296 else n7, if a = 7 then true else o7, pk (pk h n) 1, c, l, b, s) := by
  obtain ⟨e1, h1⟩ := packet15 h c n
  obtain ⟨e2, h2⟩ := packet15 (pk h n) c 1
  unfold detect_Detect_took.f
  simp only [serial_Next.f, Option.bind_some, h1, h2, show ((1 : Int) % 4294967296) = 1 from rfl]
  rcases (show a = 0 ∨ a = 1 ∨ a = 2 ∨ a = 3 ∨ a = 4 ∨ a = 5 ∨ a = 6 ∨ a = 7 by omega) with rfl | rfl | rfl | rfl | rfl | rfl | rfl | rfl <;> simp
theorem forget_eq (n0 : Int) (o0 : Bool) (n1 : Int) (o1 : Bool) (n2 : Int) (o2 : Bool) (n3 : Int) (o3 : Bool) (n4 : Int) (o4 : Bool) (n5 : Int) (o5 : Bool) (n6 : Int) (o6 : Bool) (n7 : Int) (o7 : Bool) (h : Int) (c : List Int) (l b : Int) (s : Bool) {a : Int} (ha : 0 ≤ a ∧ a < 8) :
    detect_Detect_Forget.f n0 o0 n1 o1 n2 o2 n3 o3 n4 o4 n5 o5 n6 o6 n7 o7 h c l b s a = some (if a = 0 then 0 else n0, if a = 0 then false else o0, if a = 1 then 0 else n1, if a = 1 then false else o1, if a = 2 then 0 else n2, if a = 2 then false else o2, if a = 3 then 0 else n3, if a = 3 then false else o3, if a = 4 then 0 else n4, if a = 4 then false else o4, if a = 5 then 0 else n5, if a = 5 then false else o5, if a = 6 then 0 else n6, if a = 6 then false else o6, if a = 7 then 0 else n7, if a = 7 then false else o7, h, c, l, b, s) := by
  unfold detect_Detect_Forget.f
  refine bs (has15 ha) ?_
  rcases (show a = 0 ∨ a = 1 ∨ a = 2 ∨ a = 3 ∨ a = 4 ∨ a = 5 ∨ a = 6 ∨ a = 7 by omega) with rfl | rfl | rfl | rfl | rfl | rfl | rfl | rfl <;> simp
theorem has_no {a : Int} (h : ¬ (0 ≤ a ∧ a < 8)) : detect_has.f a = some false := by
  unfold detect_has.f
  by_cases c : a ≥ 0
  · rw [if_pos c, decide_eq_false (by omega)]
  · rw [if_neg c]
theorem time_no {a : Int} (h : ¬ (0 ≤ a ∧ a ≤ 1099511627776)) : detect_time.f a = some false := by
  unfold detect_time.f
  by_cases c : a ≥ 0
  · rw [if_pos c, decide_eq_false (by omega)]
  · rw [if_neg c]
theorem forget_no (n0 : Int) (o0 : Bool) (n1 : Int) (o1 : Bool) (n2 : Int) (o2 : Bool) (n3 : Int) (o3 : Bool) (n4 : Int) (o4 : Bool) (n5 : Int) (o5 : Bool) (n6 : Int) (o6 : Bool) (n7 : Int) (o7 : Bool) (h : Int) (c : List Int) (l b : Int) (s : Bool) {a : Int} (ha : ¬ (0 ≤ a ∧ a < 8)) :
    detect_Detect_Forget.f n0 o0 n1 o1 n2 o2 n3 o3 n4 o4 n5 o5 n6 o6 n7 o7 h c l b s a = some (n0, o0, n1, o1, n2, o2, n3, o3, n4, o4, n5, o5, n6, o6, n7, o7, h, c, l, b, s) := by
  unfold detect_Detect_Forget.f
  refine bs (has_no ha) ?_
  rfl
theorem lose_eq (n0 : Int) (o0 : Bool) (n1 : Int) (o1 : Bool) (n2 : Int) (o2 : Bool) (n3 : Int) (o3 : Bool) (n4 : Int) (o4 : Bool) (n5 : Int) (o5 : Bool) (n6 : Int) (o6 : Bool) (n7 : Int) (o7 : Bool) (h : Int) {c : List Int} (l b : Int) (s : Bool) (hc : c.length ≤ 8) (g t r : Int) :
    detect_Detect_lose.f n0 o0 n1 o1 n2 o2 n3 o3 n4 o4 n5 o5 n6 o6 n7 o7 h c l b s g t r = if (!s || decide (wrap64 (t - b) > r)) = true then some (g, true, ((c.length : Int) == 0), n0, o0, n1, o1, n2, o2, n3, o3, n4, o4, n5, o5, n6, o6, n7, o7, 0, (h :: c).take 8, l, t, true) else some (g, false, false, n0, o0, n1, o1, n2, o2, n3, o3, n4, o4, n5, o5, n6, o6, n7, o7, h, c, l, b, s) := by
  unfold detect_Detect_lose.f
  rw [loss15 h hc]
  cases s
  · rfl
  · by_cases c1 : wrap64 (t - b) > r
    · rw [if_pos rfl, if_pos c1, decide_eq_true c1]; rfl
    · rw [if_pos rfl, if_neg c1, decide_eq_false c1]; rfl
theorem front_l (c : List Int) (hc : c.length ≤ 100) (d : Nat) : ∀ (k m : Nat) (out : List Int), m + d = c.length → d < k → out.length ≤ 1 + m → terraceref14_Front.l0 k c out (m : Int) = some (out ++ c.drop m) := by
  induction d with
  | zero =>
    intro k m out h hk ho
    obtain ⟨k, rfl, hk⟩ := fuel hk
    simp only [terraceref14_Front.l0]
    rw [if_neg (by omega), List.drop_of_length_le (by omega), List.append_nil]
  | succ d ih =>
    intro k m out h hk ho
    obtain ⟨k, rfl, hk⟩ := fuel hk
    have hlt : m < c.length := by omega
    have e := ih k (m + 1) (out ++ [rd c (m : Int)]) (by omega) (by omega) (by simp; omega)
    simp only [Int.natCast_add, Int.natCast_one] at e
    simp only [terraceref14_Front.l0]
    rw [if_pos (by omega), if_pos (by omega), if_pos (by omega), w64 (n := (m : Int) + 1) (by omega) (by omega), e, List.append_assoc, List.drop_eq_getElem_cons hlt]
    congr 2
    unfold rd; simp [hlt]
theorem front_f (o : Int) (c : List Int) (hc : c.length ≤ 100) {k : Nat} (hk : c.length < k) : terraceref14_Front.f k o c = some (o :: c) := by
  unfold terraceref14_Front.f
  rw [if_pos (by simp)]
  have := front_l c hc c.length k 0 ([] ++ [o]) (by omega) hk (by simp)
  simpa using this
-- the reference
theorem r_true (a0 a1 a2 a3 a4 a5 a6 a7 : Int) (k : Nat) {a : Int} (ha : 0 ≤ a ∧ a < 8) (q t r : Int) {h : Int} (hh : 0 ≤ h ∧ h ≤ 1048576) (c : List Int) (b : Int) (s : Bool) :
    terraceref15_On.j0 (k + 1) a q t r ((q + 1) % 4294967296) true a0 a1 a2 a3 a4 a5 a6 a7 h c b s t = some (if a = 0 then (q + 1) % 4294967296 else a0, if a = 1 then (q + 1) % 4294967296 else a1, if a = 2 then (q + 1) % 4294967296 else a2, if a = 3 then (q + 1) % 4294967296 else a3, if a = 4 then (q + 1) % 4294967296 else a4, if a = 5 then (q + 1) % 4294967296 else a5, if a = 6 then (q + 1) % 4294967296 else a6, if a = 7 then (q + 1) % 4294967296 else a7, pk h 1, c, b, s, t, 0, false, false) := by
  simp only [terraceref15_On.j0]
  rw [if_pos (by first | rfl | trivial), if_pos ha.1, if_pos ha.2]
  unfold terraceref15_On.vput8
  refine bs rfl ?_
  exact bs (count_eq _ _ _ _ _ _ _ _ c b s t hh (by omega)) rfl
theorem r_many (a0 a1 a2 a3 a4 a5 a6 a7 : Int) (k : Nat) {a : Int} (ha : 0 ≤ a ∧ a < 8) {q : Int} (t r : Int) {h : Int} (hh : 0 ≤ h ∧ h ≤ 1048576) (c : List Int) (b : Int) (s : Bool)
    (hx : 0 ≤ rd ([a0, a1, a2, a3, a4, a5, a6, a7] : List Int) a ∧ rd ([a0, a1, a2, a3, a4, a5, a6, a7] : List Int) a < 4294967296) (hq : 0 ≤ q ∧ q < 4294967296) (hg : gp (rd ([a0, a1, a2, a3, a4, a5, a6, a7] : List Int) a) q > 256) :
    terraceref15_On.j0 (k + 1) a q t r ((q + 1) % 4294967296) false a0 a1 a2 a3 a4 a5 a6 a7 h c b s t = some (if a = 0 then (q + 1) % 4294967296 else a0, if a = 1 then (q + 1) % 4294967296 else a1, if a = 2 then (q + 1) % 4294967296 else a2, if a = 3 then (q + 1) % 4294967296 else a3, if a = 4 then (q + 1) % 4294967296 else a4, if a = 5 then (q + 1) % 4294967296 else a5, if a = 6 then (q + 1) % 4294967296 else a6, if a = 7 then (q + 1) % 4294967296 else a7, pk h 1, c, b, s, t, 0, false, false) := by
  simp only [terraceref15_On.j0]
  rw [if_neg (by simp), if_pos ha.1, if_pos ha.2]
  refine bs (gap_ref hx hq) ?_
  rw [if_pos hg]
  unfold terraceref15_On.vput8
  refine bs rfl ?_
  exact bs (count_eq _ _ _ _ _ _ _ _ c b s t hh (by omega)) rfl
theorem r_none (a0 a1 a2 a3 a4 a5 a6 a7 : Int) (k : Nat) {a : Int} (ha : 0 ≤ a ∧ a < 8) {q : Int} (t r : Int) (h : Int) (c : List Int) (b : Int) (s : Bool)
    (hx : 0 ≤ rd ([a0, a1, a2, a3, a4, a5, a6, a7] : List Int) a ∧ rd ([a0, a1, a2, a3, a4, a5, a6, a7] : List Int) a < 4294967296) (hq : 0 ≤ q ∧ q < 4294967296) (hg : gp (rd ([a0, a1, a2, a3, a4, a5, a6, a7] : List Int) a) q ≤ 0) :
    terraceref15_On.j0 (k + 1) a q t r ((q + 1) % 4294967296) false a0 a1 a2 a3 a4 a5 a6 a7 h c b s t = some (a0, a1, a2, a3, a4, a5, a6, a7, h, c, b, s, t, 0, false, false) := by
  simp only [terraceref15_On.j0]
  rw [if_neg (by simp), if_pos ha.1, if_pos ha.2]
  refine bs (gap_ref hx hq) ?_
  rw [if_neg (by omega), if_pos hg]
theorem r_event (a0 a1 a2 a3 a4 a5 a6 a7 : Int) (k : Nat) {a : Int} (ha : 0 ≤ a ∧ a < 8) {q : Int} (t r : Int) (h : Int) (c : List Int) (b : Int) (s : Bool)
    (hx : 0 ≤ rd ([a0, a1, a2, a3, a4, a5, a6, a7] : List Int) a ∧ rd ([a0, a1, a2, a3, a4, a5, a6, a7] : List Int) a < 4294967296) (hq : 0 ≤ q ∧ q < 4294967296) (hg : 0 < gp (rd ([a0, a1, a2, a3, a4, a5, a6, a7] : List Int) a) q) (hg2 : gp (rd ([a0, a1, a2, a3, a4, a5, a6, a7] : List Int) a) q ≤ 256) :
    terraceref15_On.j0 (k + 1) a q t r ((q + 1) % 4294967296) false a0 a1 a2 a3 a4 a5 a6 a7 h c b s t = terraceref15_On.j1 k a t ((q + 1) % 4294967296) (gp (rd ([a0, a1, a2, a3, a4, a5, a6, a7] : List Int) a) q) (!s || decide (wrap64 (t - b) > r)) a0 a1 a2 a3 a4 a5 a6 a7 h c b s t := by
  simp only [terraceref15_On.j0]
  rw [if_neg (by simp), if_pos ha.1, if_pos ha.2]
  refine bs (gap_ref hx hq) ?_
  rw [if_neg (by omega), if_neg (by omega)]
  cases s <;> simp
theorem r_j2 (a0 a1 a2 a3 a4 a5 a6 a7 : Int) (k : Nat) {a : Int} (ha : 0 ≤ a ∧ a < 8) (q t : Int) {g : Int} (hg : 0 ≤ g ∧ g ≤ 256) {h : Int} (hh : 0 ≤ h ∧ h ≤ 1048576) {c : List Int} (hc : c.length ≤ 8) (b : Int) (s : Bool) (ev : Bool) (hk : 20 < k) :
    terraceref15_On.j1 (k + 2) a t ((q + 1) % 4294967296) g ev a0 a1 a2 a3 a4 a5 a6 a7 h c b s t = if ev = true then some (if a = 0 then (q + 1) % 4294967296 else a0, if a = 1 then (q + 1) % 4294967296 else a1, if a = 2 then (q + 1) % 4294967296 else a2, if a = 3 then (q + 1) % 4294967296 else a3, if a = 4 then (q + 1) % 4294967296 else a4, if a = 5 then (q + 1) % 4294967296 else a5, if a = 6 then (q + 1) % 4294967296 else a6, if a = 7 then (q + 1) % 4294967296 else a7, pk (pk 0 g) 1, (h :: c).take 8, t, true, t, g, true, ((c.length : Int) == 0)) else some (if a = 0 then (q + 1) % 4294967296 else a0, if a = 1 then (q + 1) % 4294967296 else a1, if a = 2 then (q + 1) % 4294967296 else a2, if a = 3 then (q + 1) % 4294967296 else a3, if a = 4 then (q + 1) % 4294967296 else a4, if a = 5 then (q + 1) % 4294967296 else a5, if a = 6 then (q + 1) % 4294967296 else a6, if a = 7 then (q + 1) % 4294967296 else a7, pk (pk h g) 1, c, b, s, t, g, false, false) := by
  have hz : 0 ≤ (0 : Int) ∧ (0 : Int) ≤ 1048576 := by omega
  have h1 : 0 ≤ (1 : Int) ∧ (1 : Int) ≤ 256 := by omega
  cases ev
  · simp only [terraceref15_On.j1, terraceref15_On.j2, Bool.false_eq_true, if_false]
    rw [if_pos ha.1, if_pos ha.2]
    unfold terraceref15_On.vput8
    refine bs rfl ?_
    refine bs (count_eq _ _ _ _ _ _ _ _ c b s t hh hg) ?_
    exact bs (count_eq _ _ _ _ _ _ _ _ c b s t (pk_le hh hg) h1) rfl
  · simp only [terraceref15_On.j1, terraceref15_On.j2, if_true]
    refine bs (front_f h c (by omega) (by omega)) ?_
    by_cases c1 : ((h :: c).length : Int) > 8
    · rw [if_pos c1, if_pos (by omega), if_pos ha.1, if_pos ha.2]
      unfold terraceref15_On.vput8
      refine bs rfl ?_
      refine bs (count_eq _ _ _ _ _ _ _ _ _ t true t hz hg) ?_
      exact bs (count_eq _ _ _ _ _ _ _ _ _ t true t (pk_le hz hg) h1) rfl
    · rw [if_neg c1, if_pos ha.1, if_pos ha.2, List.take_of_length_le (by omega)]
      unfold terraceref15_On.vput8
      refine bs rfl ?_
      refine bs (count_eq _ _ _ _ _ _ _ _ _ t true t hz hg) ?_
      exact bs (count_eq _ _ _ _ _ _ _ _ _ t true t (pk_le hz hg) h1) rfl
def Iv (n0 : Int) (o0 : Bool) (n1 : Int) (o1 : Bool) (n2 : Int) (o2 : Bool) (n3 : Int) (o3 : Bool) (n4 : Int) (o4 : Bool) (n5 : Int) (o5 : Bool) (n6 : Int) (o6 : Bool) (n7 : Int) (o7 : Bool) (a0 a1 a2 a3 a4 a5 a6 a7 : Int) (h : Int) (c : List Int) (l b : Int) : Prop := PtS n0 o0 n1 o1 n2 o2 n3 o3 n4 o4 n5 o5 n6 o6 n7 o7 a0 a1 a2 a3 a4 a5 a6 a7 ∧ (0 ≤ h ∧ h ≤ 1048576) ∧ c.length ≤ 8 ∧ (0 ≤ l ∧ l ≤ 1099511627776) ∧ (0 ≤ b ∧ b ≤ 1099511627776)
theorem on_both {n0 : Int} {o0 : Bool} {n1 : Int} {o1 : Bool} {n2 : Int} {o2 : Bool} {n3 : Int} {o3 : Bool} {n4 : Int} {o4 : Bool} {n5 : Int} {o5 : Bool} {n6 : Int} {o6 : Bool} {n7 : Int} {o7 : Bool} {a0 a1 a2 a3 a4 a5 a6 a7 : Int} {h : Int} {c : List Int} {l b : Int} (s : Bool) (hI : Iv n0 o0 n1 o1 n2 o2 n3 o3 n4 o4 n5 o5 n6 o6 n7 o7 a0 a1 a2 a3 a4 a5 a6 a7 h c l b) {a : Int} (ha : 0 ≤ a ∧ a < 8) {q : Int} (hq : 0 ≤ q ∧ q < 4294967296) {t r : Int} (ht : 0 ≤ t ∧ t ≤ 1099511627776) (hr : 0 ≤ r ∧ r ≤ 1099511627776) (hl : l ≤ t) {k k2 : Nat} (hk : 50 < k) (hk2 : 50 < k2) (l2 : Int) :
    ∃ (g : Int) (ev fi : Bool) (p0 : Int) (q0 : Bool) (p1 : Int) (q1 : Bool) (p2 : Int) (q2 : Bool) (p3 : Int) (q3 : Bool) (p4 : Int) (q4 : Bool) (p5 : Int) (q5 : Bool) (p6 : Int) (q6 : Bool) (p7 : Int) (q7 : Bool) (d0 d1 d2 d3 d4 d5 d6 d7 : Int) (h' : Int) (c' : List Int) (b' : Int) (s' : Bool),
      detect_Detect_On.f k n0 o0 n1 o1 n2 o2 n3 o3 n4 o4 n5 o5 n6 o6 n7 o7 h c l b s a q t r = some (g, ev, fi, 0, p0, q0, p1, q1, p2, q2, p3, q3, p4, q4, p5, q5, p6, q6, p7, q7, h', c', t, b', s') ∧
      terraceref15_On.f k2 a0 a1 a2 a3 a4 a5 a6 a7 h c b s l2 a q t r = some (d0, d1, d2, d3, d4, d5, d6, d7, h', c', b', s', t, g, ev, fi) ∧ Iv p0 q0 p1 q1 p2 q2 p3 q3 p4 q4 p5 q5 p6 q6 p7 q7 d0 d1 d2 d3 d4 d5 d6 d7 h' c' t b' := by
  obtain ⟨hP, hh, hc, hl0, hb⟩ := hI
  obtain ⟨k, rfl, hk⟩ := fuel hk
  obtain ⟨k, rfl, hk⟩ := fuel (show 49 < k by omega)
  obtain ⟨k2, rfl, hk2⟩ := fuel hk2
  obtain ⟨k2, rfl, hk2⟩ := fuel (show 49 < k2 by omega)
  obtain ⟨k2, rfl, hk2⟩ := fuel (show 48 < k2 by omega)
  have h1 : 0 ≤ (1 : Int) ∧ (1 : Int) ≤ 256 := by omega
  have hz : 0 ≤ (0 : Int) ∧ (0 : Int) ≤ 1048576 := by omega
  have hp := pts_rd hP ha
  have hS := pts_set hP a q
  have eE : Int.tmod (wrap64 (wrap64 q + 1)) 4294967296 = (q + 1) % 4294967296 := by
    rw [w64 (n := q) (by omega) (by omega), w64 (by omega) (by omega), Int.tmod_eq_emod_of_nonneg (by omega)]
  rw [on_j1 n0 o0 n1 o1 n2 o2 n3 o3 n4 o4 n5 o5 n6 o6 n7 o7 h c l b s ha q ht hr hl]
  unfold terraceref15_On.f
  rw [if_pos ha.1, if_pos ha.2, eE, w64 (n := q) (by omega) (by omega)]
  have took0 : detect_Detect_On.j1 (k + 1) a q t r (gp (rd ([n0, n1, n2, n3, n4, n5, n6, n7] : List Int) a) q) true n0 o0 n1 o1 n2 o2 n3 o3 n4 o4 n5 o5 n6 o6 n7 o7 t b s h c 0 false false = some (0, false, false, 0, if a = 0 then (q + 1) % 4294967296 else n0, if a = 0 then true else o0, if a = 1 then (q + 1) % 4294967296 else n1, if a = 1 then true else o1, if a = 2 then (q + 1) % 4294967296 else n2, if a = 2 then true else o2, if a = 3 then (q + 1) % 4294967296 else n3, if a = 3 then true else o3, if a = 4 then (q + 1) % 4294967296 else n4, if a = 4 then true else o4, if a = 5 then (q + 1) % 4294967296 else n5, if a = 5 then true else o5, if a = 6 then (q + 1) % 4294967296 else n6, if a = 6 then true else o6, if a = 7 then (q + 1) % 4294967296 else n7, if a = 7 then true else o7, pk (pk h 0) 1, c, t, b, s) := by
    simp only [detect_Detect_On.j1]
    rw [if_pos (by first | rfl | trivial)]
    exact bs (took_eq n0 o0 n1 o1 n2 o2 n3 o3 n4 o4 n5 o5 n6 o6 n7 o7 h c t b s ha q 0) rfl
  rw [pk_0 hh] at took0
  generalize hX : rd ([n0, n1, n2, n3, n4, n5, n6, n7] : List Int) a = X at *
  generalize hO : rdOf false ([o0, o1, o2, o3, o4, o5, o6, o7] : List Bool) a = O at *
  rcases hp with ⟨rfl, hA, hX0⟩ | ⟨rfl, hA, hX0⟩
  · have hA0 : 0 ≤ rd ([a0, a1, a2, a3, a4, a5, a6, a7] : List Int) a ∧ rd ([a0, a1, a2, a3, a4, a5, a6, a7] : List Int) a < 4294967296 := by rw [hA]; exact hX0
    rw [if_neg (by omega)]
    by_cases c1 : q = X
    · rw [decide_eq_true c1, show (rd ([a0, a1, a2, a3, a4, a5, a6, a7] : List Int) a == q) = true by rw [hA, c1]; simp]
      exact ⟨_, _, _, _, _, _, _, _, _, _, _, _, _, _, _, _, _, _, _, _, _, _, _, _, _, _, _, _, _, _, _, took0, r_true a0 a1 a2 a3 a4 a5 a6 a7 _ ha q t r hh c b s, hS, pk_le hh h1, hc, ht, hb⟩
    rw [show (rd ([a0, a1, a2, a3, a4, a5, a6, a7] : List Int) a == q) = false by rw [hA, beq_eq_false_iff_ne]; exact fun e => c1 e.symm, decide_eq_false c1]
    by_cases c2 : gp X q > 256
    · rw [decide_eq_true c2]
      exact ⟨_, _, _, _, _, _, _, _, _, _, _, _, _, _, _, _, _, _, _, _, _, _, _, _, _, _, _, _, _, _, _, took0, r_many a0 a1 a2 a3 a4 a5 a6 a7 _ ha t r hh c b s hA0 hq (by rw [hA]; exact c2), hS, pk_le hh h1, hc, ht, hb⟩
    rw [decide_eq_false c2]
    by_cases c3 : gp X q > 0
    · rw [r_event a0 a1 a2 a3 a4 a5 a6 a7 _ ha t r h c b s hA0 hq (by rw [hA]; exact c3) (by rw [hA]; omega), hA, r_j2 a0 a1 a2 a3 a4 a5 a6 a7 _ ha q t ⟨by omega, by omega⟩ hh hc b s _ (by omega)]
      simp only [detect_Detect_On.j1]
      rw [if_neg (by simp), if_pos c3, lose_eq n0 o0 n1 o1 n2 o2 n3 o3 n4 o4 n5 o5 n6 o6 n7 o7 h t b s hc (gp X q) t r]
      have hg : 0 ≤ gp X q ∧ gp X q ≤ 256 := by omega
      generalize gp X q = g at *
      by_cases c4 : (!s || decide (wrap64 (t - b) > r)) = true
      · rw [if_pos c4, if_pos c4]
        refine ⟨g, true, _, _, _, _, _, _, _, _, _, _, _, _, _, _, _, _, _, _, _, _, _, _, _, _, _, pk (pk 0 g) 1, (h :: c).take 8, t, true, bs rfl (bs (took_eq n0 o0 n1 o1 n2 o2 n3 o3 n4 o4 n5 o5 n6 o6 n7 o7 0 _ t t true ha q g) rfl), rfl, hS, pk_le (pk_le hz hg) h1, ?_, ht, ht⟩
        rw [List.length_take]; omega
      · rw [if_neg c4, if_neg c4]
        exact ⟨g, false, _, _, _, _, _, _, _, _, _, _, _, _, _, _, _, _, _, _, _, _, _, _, _, _, _, pk (pk h g) 1, c, b, s, bs rfl (bs (took_eq n0 o0 n1 o1 n2 o2 n3 o3 n4 o4 n5 o5 n6 o6 n7 o7 h c t b s ha q g) rfl), rfl, hS, pk_le (pk_le hh hg) h1, hc, ht, hb⟩
    · simp only [detect_Detect_On.j1]
      rw [if_neg (by simp), if_neg c3]
      exact ⟨_, _, _, _, _, _, _, _, _, _, _, _, _, _, _, _, _, _, _, _, _, _, _, _, _, _, _, _, _, _, _, rfl, r_none a0 a1 a2 a3 a4 a5 a6 a7 _ ha t r h c b s hA0 hq (by rw [hA]; omega), hP, hh, hc, ht, hb⟩
  · rw [if_pos (by omega)]
    exact ⟨_, _, _, _, _, _, _, _, _, _, _, _, _, _, _, _, _, _, _, _, _, _, _, _, _, _, _, _, _, _, _, took0, r_true a0 a1 a2 a3 a4 a5 a6 a7 _ ha q t r hh c b s, hS, pk_le hh h1, hc, ht, hb⟩
theorem on_bad (n0 : Int) (o0 : Bool) (n1 : Int) (o1 : Bool) (n2 : Int) (o2 : Bool) (n3 : Int) (o3 : Bool) (n4 : Int) (o4 : Bool) (n5 : Int) (o5 : Bool) (n6 : Int) (o6 : Bool) (n7 : Int) (o7 : Bool) (h : Int) (c : List Int) (l b : Int) (s : Bool) {a : Int} (q : Int) {t r : Int} (hn : ¬ ((0 ≤ a ∧ a < 8) ∧ (0 ≤ t ∧ t ≤ 1099511627776) ∧ (0 ≤ r ∧ r ≤ 1099511627776))) {k : Nat} (hk : 2 < k) :
    detect_Detect_On.f k n0 o0 n1 o1 n2 o2 n3 o3 n4 o4 n5 o5 n6 o6 n7 o7 h c l b s a q t r = some (0, false, false, 11, n0, o0, n1, o1, n2, o2, n3, o3, n4, o4, n5, o5, n6, o6, n7, o7, h, c, l, b, s) := by
  obtain ⟨k, rfl, hk⟩ := fuel hk
  unfold detect_Detect_On.f
  by_cases c1 : 0 ≤ a ∧ a < 8
  · refine bs (has15 c1) ?_
    rw [if_pos rfl]
    by_cases c2 : 0 ≤ t ∧ t ≤ 1099511627776
    · refine bs (time15 c2) ?_
      rw [if_pos rfl]
      refine bs (time_no (fun c3 => hn ⟨c1, c2, c3⟩)) ?_
      simp only [detect_Detect_On.j0]; rfl
    · refine bs (time_no c2) ?_
      rw [if_neg (by simp)]
      simp only [detect_Detect_On.j0]; rfl
  · refine bs (has_no c1) ?_
    rw [if_neg (by simp)]
    simp only [detect_Detect_On.j0]; rfl
theorem on_stale (n0 : Int) (o0 : Bool) (n1 : Int) (o1 : Bool) (n2 : Int) (o2 : Bool) (n3 : Int) (o3 : Bool) (n4 : Int) (o4 : Bool) (n5 : Int) (o5 : Bool) (n6 : Int) (o6 : Bool) (n7 : Int) (o7 : Bool) (h : Int) (c : List Int) (l b : Int) (s : Bool) {a : Int} (ha : 0 ≤ a ∧ a < 8) (q : Int) {t r : Int} (ht : 0 ≤ t ∧ t ≤ 1099511627776) (hr : 0 ≤ r ∧ r ≤ 1099511627776) (hl : t < l) {k : Nat} (hk : 2 < k) :
    detect_Detect_On.f k n0 o0 n1 o1 n2 o2 n3 o3 n4 o4 n5 o5 n6 o6 n7 o7 h c l b s a q t r = some (0, false, false, 23, n0, o0, n1, o1, n2, o2, n3, o3, n4, o4, n5, o5, n6, o6, n7, o7, h, c, l, b, s) := by
  obtain ⟨k, rfl, hk⟩ := fuel hk
  unfold detect_Detect_On.f
  refine bs (has15 ha) ?_
  rw [if_pos rfl]
  refine bs (time15 ht) ?_
  rw [if_pos rfl]
  refine bs (time15 hr) ?_
  simp only [detect_Detect_On.j0]
  rw [if_neg (by simp), if_pos hl]
theorem within_y {a : Int} (h : 0 ≤ a ∧ a ≤ 1099511627776) : terracelaw15_within.f a = some true := by
  unfold terracelaw15_within.f; rw [if_pos (by omega), decide_eq_true h.2]
theorem within_n {a : Int} (h : ¬ (0 ≤ a ∧ a ≤ 1099511627776)) : terracelaw15_within.f a = some false := by
  unfold terracelaw15_within.f
  by_cases c : a ≥ 0
  · rw [if_pos c, decide_eq_false (by omega)]
  · rw [if_neg c]
theorem late (x : Int) : -5 ≤ mn (mx x (-5)) 1048576 ∧ mn (mx x (-5)) 1048576 ≤ 1048576 := by
  unfold mn mx; split <;> split <;> omega
theorem step15 {n0 : Int} {o0 : Bool} {n1 : Int} {o1 : Bool} {n2 : Int} {o2 : Bool} {n3 : Int} {o3 : Bool} {n4 : Int} {o4 : Bool} {n5 : Int} {o5 : Bool} {n6 : Int} {o6 : Bool} {n7 : Int} {o7 : Bool} {a0 a1 a2 a3 a4 a5 a6 a7 : Int} {h : Int} {c : List Int} {l b : Int} (s : Bool) (hI : Iv n0 o0 n1 o1 n2 o2 n3 o3 n4 o4 n5 o5 n6 o6 n7 o7 a0 a1 a2 a3 a4 a5 a6 a7 h c l b) (f a : Int) {q : Int} (hq : 0 ≤ q ∧ q < 4294967296) (x r : Int) {k : Nat} (hk : 100 < k) :
    ∃ (p0 : Int) (q0 : Bool) (p1 : Int) (q1 : Bool) (p2 : Int) (q2 : Bool) (p3 : Int) (q3 : Bool) (p4 : Int) (q4 : Bool) (p5 : Int) (q5 : Bool) (p6 : Int) (q6 : Bool) (p7 : Int) (q7 : Bool) (d0 d1 d2 d3 d4 d5 d6 d7 : Int) (h' : Int) (c' : List Int) (l' b' : Int) (s' : Bool),
      terracelaw15_step.f k n0 o0 n1 o1 n2 o2 n3 o3 n4 o4 n5 o5 n6 o6 n7 o7 h c l b s a0 a1 a2 a3 a4 a5 a6 a7 h c b s l f a q x r = some (d0, d1, d2, d3, d4, d5, d6, d7, h', c', b', s', l', true, p0, q0, p1, q1, p2, q2, p3, q3, p4, q4, p5, q5, p6, q6, p7, q7, h', c', l', b', s') ∧ Iv p0 q0 p1 q1 p2 q2 p3 q3 p4 q4 p5 q5 p6 q6 p7 q7 d0 d1 d2 d3 d4 d5 d6 d7 h' c' l' b' := by
  obtain ⟨k, rfl, hk⟩ := fuel hk
  have hI0 := hI
  obtain ⟨hP, hh, hc, hl0, hb⟩ := hI
  have hx := late x
  have ef : terracelaw15_step.f (k + 1) n0 o0 n1 o1 n2 o2 n3 o3 n4 o4 n5 o5 n6 o6 n7 o7 h c l b s a0 a1 a2 a3 a4 a5 a6 a7 h c b s l f a q x r = terracelaw15_step.j0 (k + 1) (decide (0 ≤ a ∧ a < 8)) n0 o0 n1 o1 n2 o2 n3 o3 n4 o4 n5 o5 n6 o6 n7 o7 l b s h c a0 a1 a2 a3 a4 a5 a6 a7 h c b s l f a q x r := by
    unfold terracelaw15_step.f
    by_cases c1 : a ≥ 0
    · rw [if_pos c1, show decide (a < 8) = decide (0 ≤ a ∧ a < 8) from decide_eq_decide.2 (by omega)]
    · rw [if_neg c1, decide_eq_false (show ¬ (0 ≤ a ∧ a < 8) by omega)]
  rw [ef]
  clear ef
  simp only [terracelaw15_step.j0]
  by_cases c0 : f = 1
  · rw [if_pos c0]
    by_cases c1 : 0 ≤ a ∧ a < 8
    · rw [decide_eq_true c1]
      refine ⟨_, _, _, _, _, _, _, _, _, _, _, _, _, _, _, _, _, _, _, _, _, _, _, _, h, c, l, b, s, bs (forget_eq n0 o0 n1 o1 n2 o2 n3 o3 n4 o4 n5 o5 n6 o6 n7 o7 h c l b s c1) ?_, pts_clr hP a, hh, hc, hl0, hb⟩
      rw [if_pos (by first | rfl | trivial), if_pos c1.1, if_pos c1.2]
      exact bs (show terracelaw15_step.vput8 a (-1) a0 a1 a2 a3 a4 a5 a6 a7 = some (if a = 0 then (-1) else a0, if a = 1 then (-1) else a1, if a = 2 then (-1) else a2, if a = 3 then (-1) else a3, if a = 4 then (-1) else a4, if a = 5 then (-1) else a5, if a = 6 then (-1) else a6, if a = 7 then (-1) else a7) from rfl) rfl
    · rw [decide_eq_false c1]
      exact ⟨_, _, _, _, _, _, _, _, _, _, _, _, _, _, _, _, _, _, _, _, _, _, _, _, h, c, l, b, s, bs (forget_no n0 o0 n1 o1 n2 o2 n3 o3 n4 o4 n5 o5 n6 o6 n7 o7 h c l b s c1) rfl, hP, hh, hc, hl0, hb⟩
  rw [if_neg c0]
  rw [w64 (n := l + mn (mx x (-5)) 1048576) (by omega) (by omega)]
  generalize l + mn (mx x (-5)) 1048576 = t at *
  obtain ⟨k, rfl, hk⟩ := fuel (show 99 < k by omega)
  by_cases c1 : 0 ≤ a ∧ a < 8
  · rw [decide_eq_true c1]
    by_cases c2 : 0 ≤ t ∧ t ≤ 1099511627776
    · by_cases c3 : 0 ≤ r ∧ r ≤ 1099511627776
      · by_cases c4 : t < l
        · refine ⟨_, _, _, _, _, _, _, _, _, _, _, _, _, _, _, _, _, _, _, _, _, _, _, _, h, c, l, b, s, bs (on_stale n0 o0 n1 o1 n2 o2 n3 o3 n4 o4 n5 o5 n6 o6 n7 o7 h c l b s c1 q c2 c3 c4 (by omega)) ?_, hI0⟩
          rw [if_pos (by first | rfl | trivial)]
          refine bs (within_y c2) ?_
          rw [if_pos (by first | rfl | trivial)]
          refine bs (within_y c3) ?_
          simp only [terracelaw15_step.j1]
          rw [if_neg (by simp), if_pos c4, if_pos (by first | rfl | trivial)]; rfl
        · obtain ⟨g, ev, fi, p0, q0, p1, q1, p2, q2, p3, q3, p4, q4, p5, q5, p6, q6, p7, q7, d0, d1, d2, d3, d4, d5, d6, d7, h', c', b', s', e1, e2, hI'⟩ := on_both s hI0 c1 hq c2 c3 (show l ≤ t by omega) (show 50 < k + 1 by omega) (show 50 < k by omega) l
          refine ⟨p0, q0, p1, q1, p2, q2, p3, q3, p4, q4, p5, q5, p6, q6, p7, q7, d0, d1, d2, d3, d4, d5, d6, d7, h', c', t, b', s', bs e1 ?_, hI'⟩
          rw [if_pos (by first | rfl | trivial)]
          refine bs (within_y c2) ?_
          rw [if_pos (by first | rfl | trivial)]
          refine bs (within_y c3) ?_
          simp only [terracelaw15_step.j1]
          rw [if_neg (by simp), if_neg c4]
          refine bs e2 ?_
          rw [if_pos (by first | rfl | trivial)]
          simp
      · refine ⟨_, _, _, _, _, _, _, _, _, _, _, _, _, _, _, _, _, _, _, _, _, _, _, _, h, c, l, b, s, bs (on_bad n0 o0 n1 o1 n2 o2 n3 o3 n4 o4 n5 o5 n6 o6 n7 o7 h c l b s q (fun z => c3 z.2.2) (by omega)) ?_, hI0⟩
        rw [if_pos (by first | rfl | trivial)]
        refine bs (within_y c2) ?_
        rw [if_pos (by first | rfl | trivial)]
        refine bs (within_n c3) ?_
        simp only [terracelaw15_step.j1]
        rw [if_pos (by first | rfl | trivial), if_pos (by first | rfl | trivial)]; rfl
    · refine ⟨_, _, _, _, _, _, _, _, _, _, _, _, _, _, _, _, _, _, _, _, _, _, _, _, h, c, l, b, s, bs (on_bad n0 o0 n1 o1 n2 o2 n3 o3 n4 o4 n5 o5 n6 o6 n7 o7 h c l b s q (fun z => c2 z.2.1) (by omega)) ?_, hI0⟩
      rw [if_pos (by first | rfl | trivial)]
      refine bs (within_n c2) ?_
      rw [if_neg (by simp)]
      simp only [terracelaw15_step.j1]
      rw [if_pos (by first | rfl | trivial), if_pos (by first | rfl | trivial)]; rfl
  · rw [decide_eq_false c1]
    refine ⟨_, _, _, _, _, _, _, _, _, _, _, _, _, _, _, _, _, _, _, _, _, _, _, _, h, c, l, b, s, bs (on_bad n0 o0 n1 o1 n2 o2 n3 o3 n4 o4 n5 o5 n6 o6 n7 o7 h c l b s q (fun z => c1 z.1) (by omega)) ?_, hI0⟩
    rw [if_neg (by simp)]
    simp only [terracelaw15_step.j1]
    rw [if_pos (by first | rfl | trivial), if_pos (by first | rfl | trivial)]; rfl
theorem closed_f (o : Int) (c : List Int) (hc : c.length ≤ 100) : history_History_Closed.f o c = some c := by
  unfold history_History_Closed.f
  refine bs (a := c) ?_ rfl
  unfold slices_Clone_int_int.f
  rw [if_pos (by omega)]
theorem same_1 {n0 : Int} {o0 : Bool} {n1 : Int} {o1 : Bool} {n2 : Int} {o2 : Bool} {n3 : Int} {o3 : Bool} {n4 : Int} {o4 : Bool} {n5 : Int} {o5 : Bool} {n6 : Int} {o6 : Bool} {n7 : Int} {o7 : Bool} {a0 a1 a2 a3 a4 a5 a6 a7 : Int} (h : Int) (c : List Int) (l b : Int) (s : Bool) (hP : PtS n0 o0 n1 o1 n2 o2 n3 o3 n4 o4 n5 o5 n6 o6 n7 o7 a0 a1 a2 a3 a4 a5 a6 a7) (d : Nat) : ∀ (k : Nat) (i : Int), i + d = 8 → 0 ≤ i → 2 * d < k →
    terracelaw15_same.l1 k i n0 o0 n1 o1 n2 o2 n3 o3 n4 o4 n5 o5 n6 o6 n7 o7 l b s h c a0 a1 a2 a3 a4 a5 a6 a7 h c b s l = some true := by
  induction d with
  | zero =>
    intro k i hi h0 hk
    obtain ⟨k, rfl, hk⟩ := fuel hk
    simp only [terracelaw15_same.l1]
    rw [if_neg (by omega)]
    unfold detect_Detect_Begin.f
    refine bs rfl ?_
    rw [if_pos (by simp)]; simp
  | succ d ih =>
    intro k i hi h0 hk
    obtain ⟨k, rfl, hk⟩ := fuel hk
    obtain ⟨k, rfl, hk⟩ := fuel (show 2 * d < k by omega)
    have e := ih k (i + 1) (by omega) (by omega) (by omega)
    have hi8 : 0 ≤ i ∧ i < 8 := by omega
    have hp := pts_rd hP hi8
    have ee : detect_Detect_Expects.f n0 o0 n1 o1 n2 o2 n3 o3 n4 o4 n5 o5 n6 o6 n7 o7 h c l b s i = some (rd ([n0, n1, n2, n3, n4, n5, n6, n7] : List Int) i, rdOf false ([o0, o1, o2, o3, o4, o5, o6, o7] : List Bool) i) := by
      unfold detect_Detect_Expects.f
      refine bs (has15 hi8) ?_
      rw [if_pos rfl, if_pos hi8.1, if_pos hi8.2]
    simp only [terracelaw15_same.l1]
    rw [if_pos (by omega), if_pos h0]
    refine bs ee ?_
    simp only [terracelaw15_same.j3]
    rw [w64 (n := i + 1) (by omega) (by omega), e]
    generalize rd ([n0, n1, n2, n3, n4, n5, n6, n7] : List Int) i = X at *
    generalize rdOf false ([o0, o1, o2, o3, o4, o5, o6, o7] : List Bool) i = O at *
    generalize rd ([a0, a1, a2, a3, a4, a5, a6, a7] : List Int) i = A at *
    rcases hp with ⟨rfl, rfl, hX⟩ | ⟨rfl, rfl, rfl⟩
    · rw [decide_eq_true (show A ≥ 0 by omega), if_neg (by simp), if_pos rfl, w64 (by omega) (by omega), if_pos rfl]
    · rw [if_neg (by simp), if_neg (by simp), if_pos rfl]
theorem same_0 {n0 : Int} {o0 : Bool} {n1 : Int} {o1 : Bool} {n2 : Int} {o2 : Bool} {n3 : Int} {o3 : Bool} {n4 : Int} {o4 : Bool} {n5 : Int} {o5 : Bool} {n6 : Int} {o6 : Bool} {n7 : Int} {o7 : Bool} {a0 a1 a2 a3 a4 a5 a6 a7 : Int} (h : Int) (c : List Int) (hc : c.length ≤ 8) (l b : Int) (s : Bool) (hP : PtS n0 o0 n1 o1 n2 o2 n3 o3 n4 o4 n5 o5 n6 o6 n7 o7 a0 a1 a2 a3 a4 a5 a6 a7) (d : Nat) : ∀ (k m : Nat), m + d = c.length → 20 + d < k →
    terracelaw15_same.l0 k c (c.length : Int) (m : Int) n0 o0 n1 o1 n2 o2 n3 o3 n4 o4 n5 o5 n6 o6 n7 o7 l b s h c a0 a1 a2 a3 a4 a5 a6 a7 h c b s l = some true := by
  induction d with
  | zero =>
    intro k m hm hk
    obtain ⟨k, rfl, hk⟩ := fuel hk
    simp only [terracelaw15_same.l0]
    rw [if_neg (by omega)]
    exact same_1 h c l b s hP 8 k 0 (by omega) (by omega) (by omega)
  | succ d ih =>
    intro k m hm hk
    obtain ⟨k, rfl, hk⟩ := fuel hk
    have e := ih k (m + 1) (by omega) (by omega)
    simp only [Int.natCast_add, Int.natCast_one] at e
    simp only [terracelaw15_same.l0]
    rw [if_pos (by omega), if_pos (by omega), if_pos (by omega), if_pos (by omega), if_pos (by first | rfl | trivial), w64 (n := (m : Int) + 1) (by omega) (by omega)]
    exact e
theorem same15 {n0 : Int} {o0 : Bool} {n1 : Int} {o1 : Bool} {n2 : Int} {o2 : Bool} {n3 : Int} {o3 : Bool} {n4 : Int} {o4 : Bool} {n5 : Int} {o5 : Bool} {n6 : Int} {o6 : Bool} {n7 : Int} {o7 : Bool} {a0 a1 a2 a3 a4 a5 a6 a7 : Int} {h : Int} {c : List Int} {l b : Int} (s : Bool) (hI : Iv n0 o0 n1 o1 n2 o2 n3 o3 n4 o4 n5 o5 n6 o6 n7 o7 a0 a1 a2 a3 a4 a5 a6 a7 h c l b) {k : Nat} (hk : 50 < k) :
    terracelaw15_same.f k n0 o0 n1 o1 n2 o2 n3 o3 n4 o4 n5 o5 n6 o6 n7 o7 h c l b s a0 a1 a2 a3 a4 a5 a6 a7 h c b s l = some true := by
  obtain ⟨hP, hh, hc, hl0, hb⟩ := hI
  obtain ⟨k, rfl, hk⟩ := fuel hk
  unfold terracelaw15_same.f
  refine bs (show detect_Detect_History.f n0 o0 n1 o1 n2 o2 n3 o3 n4 o4 n5 o5 n6 o6 n7 o7 h c l b s = some () from rfl) ?_
  refine bs (show history_History_Open.f h c = some h from rfl) ?_
  rw [if_pos (by first | rfl | trivial)]
  refine bs (closed_f h c (by omega)) ?_
  simp only [terracelaw15_same.j0]
  rw [if_neg (by simp)]
  refine bs (closed_f h c (by omega)) ?_
  exact same_0 h c hc l b s hP c.length k 0 (by omega) (by omega)
theorem copies_m (L : List S29) (hL : L.length ≤ 100) (hok : ∀ y ∈ L, okS29 y) (n0 : Int) (o0 : Bool) (n1 : Int) (o1 : Bool) (n2 : Int) (o2 : Bool) (n3 : Int) (o3 : Bool) (n4 : Int) (o4 : Bool) (n5 : Int) (o5 : Bool) (n6 : Int) (o6 : Bool) (n7 : Int) (o7 : Bool) (a0 a1 a2 a3 a4 a5 a6 a7 : Int) (h : Int) (c : List Int) (l b : Int) (s : Bool) (hI : Iv n0 o0 n1 o1 n2 o2 n3 o3 n4 o4 n5 o5 n6 o6 n7 o7 a0 a1 a2 a3 a4 a5 a6 a7 h c l b) (e : Nat) :
    ∀ (m : Nat) (p0 : Int) (q0 : Bool) (p1 : Int) (q1 : Bool) (p2 : Int) (q2 : Bool) (p3 : Int) (q3 : Bool) (p4 : Int) (q4 : Bool) (p5 : Int) (q5 : Bool) (p6 : Int) (q6 : Bool) (p7 : Int) (q7 : Bool) (d0 d1 d2 d3 d4 d5 d6 d7 : Int) (h' : Int) (c' : List Int) (l' b' : Int) (s' : Bool), m + e = L.length → Iv p0 q0 p1 q1 p2 q2 p3 q3 p4 q4 p5 q5 p6 q6 p7 q7 d0 d1 d2 d3 d4 d5 d6 d7 h' c' l' b' → ∀ k, e + 1100 ≤ k →
      terracelaw15_DetectCopies.l1 k L (L.length : Int) (m : Int) n0 o0 n1 o1 n2 o2 n3 o3 n4 o4 n5 o5 n6 o6 n7 o7 l b s h c a0 a1 a2 a3 a4 a5 a6 a7 h c b s l p0 q0 p1 q1 p2 q2 p3 q3 p4 q4 p5 q5 p6 q6 p7 q7 l' b' s' h' c' d0 d1 d2 d3 d4 d5 d6 d7 h' c' b' s' l' = some true := by
  induction e with
  | zero =>
    intro m p0 q0 p1 q1 p2 q2 p3 q3 p4 q4 p5 q5 p6 q6 p7 q7 d0 d1 d2 d3 d4 d5 d6 d7 h' c' l' b' s' hm hI' k hk
    obtain ⟨k, rfl, hk⟩ := fuel (show 1099 < k by omega)
    simp only [terracelaw15_DetectCopies.l1]
    rw [if_neg (by omega)]
    refine bs (same15 s hI (by omega)) ?_
    rw [if_pos (by first | rfl | trivial)]
    refine bs (same15 s' hI' (by omega)) ?_
    rw [if_pos (by first | rfl | trivial)]
    exact bs (awake15_k (by omega)) rfl
  | succ e ih =>
    intro m p0 q0 p1 q1 p2 q2 p3 q3 p4 q4 p5 q5 p6 q6 p7 q7 d0 d1 d2 d3 d4 d5 d6 d7 h' c' l' b' s' hm hI' k hk
    obtain ⟨k, rfl, hk⟩ := fuel (show e + 1100 < k by omega)
    have hlt : m < L.length := by omega
    have hq : 0 ≤ (rd_T29 L (m : Int)).f2 ∧ (rd_T29 L (m : Int)).f2 < 4294967296 := by
      have e : rd_T29 L (m : Int) = L[m] := by unfold rd_T29; simp [hlt]
      have := wf_u32 (hok L[m] (List.getElem_mem hlt)).2.2.1
      rw [e]; omega
    obtain ⟨u0, v0, u1, v1, u2, v2, u3, v3, u4, v4, u5, v5, u6, v6, u7, v7, f0, f1, f2, f3, f4, f5, f6, f7, h2, c2, l2, b2, s2, e1, hI2⟩ := step15 s' hI' (rd_T29 L (m : Int)).f0 (rd_T29 L (m : Int)).f1 hq (rd_T29 L (m : Int)).f3 (rd_T29 L (m : Int)).f4 (show 100 < k by omega)
    simp only [terracelaw15_DetectCopies.l1]
    rw [if_pos (by omega), if_pos (by omega), if_pos (by omega)]
    refine bs e1 ?_
    rw [if_pos (by first | rfl | trivial), w64 (n := (m : Int) + 1) (by omega) (by omega)]
    have := ih (m + 1) u0 v0 u1 v1 u2 v2 u3 v3 u4 v4 u5 v5 u6 v6 u7 v7 f0 f1 f2 f3 f4 f5 f6 f7 h2 c2 l2 b2 s2 (by omega) hI2 k (by omega)
    rw [Int.natCast_add, Int.natCast_one] at this
    exact this
theorem copies_l (L M : List S29) (hL : L.length ≤ 100) (hok : ∀ y ∈ L, okS29 y) (hM : M.length ≤ 100) (hokM : ∀ y ∈ M, okS29 y) (d : Nat) :
    ∀ (m : Nat) (n0 : Int) (o0 : Bool) (n1 : Int) (o1 : Bool) (n2 : Int) (o2 : Bool) (n3 : Int) (o3 : Bool) (n4 : Int) (o4 : Bool) (n5 : Int) (o5 : Bool) (n6 : Int) (o6 : Bool) (n7 : Int) (o7 : Bool) (a0 a1 a2 a3 a4 a5 a6 a7 : Int) (h : Int) (c : List Int) (l b : Int) (s : Bool), m + d = L.length → Iv n0 o0 n1 o1 n2 o2 n3 o3 n4 o4 n5 o5 n6 o6 n7 o7 a0 a1 a2 a3 a4 a5 a6 a7 h c l b → ∀ k, d + 1300 ≤ k →
      terracelaw15_DetectCopies.l0 k M L (L.length : Int) (m : Int) n0 o0 n1 o1 n2 o2 n3 o3 n4 o4 n5 o5 n6 o6 n7 o7 l b s h c a0 a1 a2 a3 a4 a5 a6 a7 h c b s l = some true := by
  induction d with
  | zero =>
    intro m n0 o0 n1 o1 n2 o2 n3 o3 n4 o4 n5 o5 n6 o6 n7 o7 a0 a1 a2 a3 a4 a5 a6 a7 h c l b s hm hI k hk
    obtain ⟨k, rfl, hk⟩ := fuel (show 1299 < k by omega)
    have e : detect_Detect_Copy.f n0 o0 n1 o1 n2 o2 n3 o3 n4 o4 n5 o5 n6 o6 n7 o7 h c l b s = some (n0, o0, n1, o1, n2, o2, n3, o3, n4, o4, n5, o5, n6, o6, n7, o7, h, c, l, b, s) := by
      unfold detect_Detect_Copy.f history_History_Copy.f slices_Clone_int_int.f
      rw [if_pos (by have := hI.2.2.1; omega)]; rfl
    simp only [terracelaw15_DetectCopies.l0]
    rw [if_neg (by omega)]
    refine bs e ?_
    exact copies_m M hM hokM n0 o0 n1 o1 n2 o2 n3 o3 n4 o4 n5 o5 n6 o6 n7 o7 a0 a1 a2 a3 a4 a5 a6 a7 h c l b s hI M.length 0 n0 o0 n1 o1 n2 o2 n3 o3 n4 o4 n5 o5 n6 o6 n7 o7 a0 a1 a2 a3 a4 a5 a6 a7 h c l b s (by omega) hI k (by omega)
  | succ d ih =>
    intro m n0 o0 n1 o1 n2 o2 n3 o3 n4 o4 n5 o5 n6 o6 n7 o7 a0 a1 a2 a3 a4 a5 a6 a7 h c l b s hm hI k hk
    obtain ⟨k, rfl, hk⟩ := fuel (show d + 1300 < k by omega)
    have hlt : m < L.length := by omega
    have hq : 0 ≤ (rd_T29 L (m : Int)).f2 ∧ (rd_T29 L (m : Int)).f2 < 4294967296 := by
      have e : rd_T29 L (m : Int) = L[m] := by unfold rd_T29; simp [hlt]
      have := wf_u32 (hok L[m] (List.getElem_mem hlt)).2.2.1
      rw [e]; omega
    obtain ⟨p0, q0, p1, q1, p2, q2, p3, q3, p4, q4, p5, q5, p6, q6, p7, q7, d0, d1, d2, d3, d4, d5, d6, d7, h', c', l', b', s', e1, hI'⟩ := step15 s hI (rd_T29 L (m : Int)).f0 (rd_T29 L (m : Int)).f1 hq (rd_T29 L (m : Int)).f3 (rd_T29 L (m : Int)).f4 (show 100 < k by omega)
    simp only [terracelaw15_DetectCopies.l0]
    rw [if_pos (by omega), if_pos (by omega), if_pos (by omega)]
    refine bs e1 ?_
    rw [w64 (n := (m : Int) + 1) (by omega) (by omega)]
    have := ih (m + 1) p0 q0 p1 q1 p2 q2 p3 q3 p4 q4 p5 q5 p6 q6 p7 q7 d0 d1 d2 d3 d4 d5 d6 d7 h' c' l' b' s' (by omega) hI' k (by omega)
    rw [Int.natCast_add, Int.natCast_one] at this
    exact this
theorem DetectCopies : terracelaw15_DetectCopies.Pure := by
  intro L M hL hok hM hokM
  refine ⟨5000, ?_⟩
  unfold terracelaw15_DetectCopies.f detect_New.f history_New.f
  refine bs rfl ?_
  by_cases c1 : (L.length : Int) > 60
  · rw [if_pos c1]
    simp only [terracelaw15_DetectCopies.j0]
    rw [if_pos (by first | rfl | trivial)]
    exact bs (awake15_k (by omega)) rfl
  rw [if_neg c1]
  by_cases c2 : (M.length : Int) > 60
  · rw [decide_eq_true c2]
    simp only [terracelaw15_DetectCopies.j0]
    rw [if_pos (by first | rfl | trivial)]
    exact bs (awake15_k (by omega)) rfl
  rw [decide_eq_false c2]
  simp only [terracelaw15_DetectCopies.j0]
  rw [if_neg (by simp)]
  unfold terraceref15_New.f
  refine bs rfl ?_
  have hz : Pt 0 false (-1) := .inr ⟨rfl, rfl, rfl⟩
  exact copies_l L M (by omega) hok (by omega) hokM L.length 0 0 false 0 false 0 false 0 false 0 false 0 false 0 false 0 false (-1) (-1) (-1) (-1) (-1) (-1) (-1) (-1) 0 [] 0 0 false (by omega) ⟨⟨hz, hz, hz, hz, hz, hz, hz, hz⟩, by omega, by simp, by omega, by omega⟩ 4999 (by omega)

end Go.Proofs.Ytobipigioaoaiaa.Pure
