/- Proved: losses that are no more than a round trip behind the begin of a loss event are of that event (for every input that the statement's guards let in; the Go function returns true and leaves its arguments as they were). -/
import Derived.Test.YtobipigioaoaiaaPDetectGroupsx7
set_option linter.unusedVariables false
set_option linter.unusedSimpArgs false
namespace Go.Proofs.Ytobipigioaoaiaa.Pure
open Go.RowKit Go.Proofs.Ytobipigioaoaiaa.PDetectGroups Go.Proofs.YtobipigioaoaiaaW.PrintWords Go.Proofs.YtobipigioaoaiaaW.PrintLast Go.Proofs.YtobipigioaoaiaaW.PrintMore

theorem wf_u8 {a : Int} (h : (Lit.int .u8 a).wf = true) : 0 ≤ a ∧ a ≤ 255 := by
  simpa [Lit.wf, IntKind.min, IntKind.max, IntKind.signed, IntKind.bits] using h
theorem wf_u16 {a : Int} (h : (Lit.int .u16 a).wf = true) : 0 ≤ a ∧ a ≤ 65535 := by
  simpa [Lit.wf, IntKind.min, IntKind.max, IntKind.signed, IntKind.bits] using h
theorem wf_u32 {a : Int} (h : (Lit.int .u32 a).wf = true) : 0 ≤ a ∧ a ≤ 4294967295 := by
  simpa [Lit.wf, IntKind.min, IntKind.max, IntKind.signed, IntKind.bits] using h
theorem wf_u64 {a : Int} (h : (Lit.int .u64 a).wf = true) : 0 ≤ a ∧ a ≤ 18446744073709551615 := by
  simpa [Lit.wf, IntKind.min, IntKind.max, IntKind.signed, IntKind.bits] using h
theorem wf_i64 {a : Int} (h : (Lit.int .i64 a).wf = true) : -9223372036854775808 ≤ a ∧ a ≤ 9223372036854775807 := by
  simpa [Lit.wf, IntKind.min, IntKind.max, IntKind.signed, IntKind.bits] using h
theorem w64 {n : Int} (h : -9223372036854775808 ≤ n) (h' : n ≤ 9223372036854775807) : wrap64 n = n := by
  unfold wrap64; omega
theorem fuel {k n : Nat} (h : n < k) : ∃ m, k = m + 1 ∧ n ≤ m := ⟨k - 1, by omega, by omega⟩
theorem u64 {n : Int} (h : 0 ≤ n) (h' : n ≤ 18446744073709551615) : IntKind.u64.wrap n = n := by
  simp only [IntKind.wrap, IntKind.bits, IntKind.signed]; simp; omega
theorem wu (n : Int) : IntKind.u64.wrap n = n % 18446744073709551616 := by
  simp [IntKind.wrap, IntKind.bits, IntKind.signed]
theorem wraps_u64 (n : Int) (h0 : 0 ≤ n) (h1 : n < 2 ^ 64) : IntKind.u64.wrap n = n := by rw [wu]; omega
theorem and32 (x : Int) (h0 : 0 ≤ x) (h1 : x < 18446744073709551616) : Go.bits .and .u64 x 4294967295 = x % 4294967296 :=
  bits_mask .u64 64 (by decide) wraps_u64 32 (by decide) x h0 h1
theorem or_join (i : Nat) (x y : Int) (h0 : 0 ≤ x) (h1 : x % 2 ^ i = 0) (h2 : x < 18446744073709551616) (h3 : 0 ≤ y) (h4 : y < 2 ^ i) (h5 : y < 18446744073709551616) : Go.bits .or .u64 x y = x + y :=
  bits_join .u64 64 (by decide) wraps_u64 i x y h0 h1 h2 h3 h4 h5
theorem shl_u (x y : Int) (h0 : 0 ≤ y) (h1 : y ≤ 64) : shl .u64 x y = (x * 2 ^ y.toNat) % 18446744073709551616 := by
  unfold shl; rw [wu, show min y.toNat (IntKind.bits .u64) = y.toNat from Nat.min_eq_left (by simp [IntKind.bits]; omega)]
theorem shr_u (x y : Int) (h0 : 0 ≤ y) (h1 : y ≤ 64) : shr .u64 x y = x / 2 ^ y.toNat := by
  unfold shr; rw [show min y.toNat (IntKind.bits .u64) = y.toNat from Nat.min_eq_left (by simp [IntKind.bits]; omega)]
/-- one call behind another (no unfolding: the kernel need not look into what is called) -/
theorem bs {α β : Type} {x : Option α} {f : α → Option β} {a : α} {r : Option β} (h : x = some a) (h2 : f a = r) : x.bind f = r := by
  subst h; exact h2
theorem awake15_k {k : Nat} (hk : 1000 ≤ k) : terracelaw15_awake.f k = some true :=
  at_rounds (g := fun k => terracelaw15_awake.f k) (fun k => terracelaw15_awake.mono k) hk (by decide +kernel)
theorem has15 {a : Int} (h : 0 ≤ a ∧ a < 8) : detect_has.f a = some true := by
  unfold detect_has.f; rw [if_pos (by omega)]; simp; omega
theorem time15 {a : Int} (h : 0 ≤ a ∧ a ≤ 1099511627776) : detect_time.f a = some true := by
  unfold detect_time.f; rw [if_pos (by omega)]; simp; omega
def gp (x y : Int) : Int := if (y - x) % 4294967296 = 2147483648 then 0 else wrap64 (wrap32 ((y - x) % 4294967296))
theorem gap15 (x y : Int) : serial_Gap.f x y = some (gp x y) := by
  unfold serial_Gap.f gp; split <;> rfl
def pk (o n : Int) : Int := if n < 0 then o else if n > 65536 then o else if wrap64 (o + n) > 1048576 then o else wrap64 (o + n)
theorem packet15 (o : Int) (c : List Int) (n : Int) : ∃ e, history_History_Packet.f o c n = some (e, pk o n, c) := by
  unfold history_History_Packet.f pk
  by_cases c1 : n < 0
  · rw [if_pos c1, if_pos c1]; exact ⟨_, rfl⟩
  rw [if_neg c1, if_neg c1]
  by_cases c2 : n > 65536
  · rw [if_pos c2, if_pos c2]; exact ⟨_, rfl⟩
  rw [if_neg c2, if_neg c2]
  by_cases c3 : wrap64 (o + n) > 1048576
  · rw [if_pos c3, if_pos c3]; exact ⟨_, rfl⟩
  · rw [if_neg c3, if_neg c3]; exact ⟨_, rfl⟩
theorem take_mn (l : List Int) : l.take ((mn (l.length : Int) 8) : Int).toNat = l.take 8 ∧ 0 ≤ mn (l.length : Int) 8 ∧ mn (l.length : Int) 8 ≤ (l.length : Int) := by
  unfold mn
  split
  · exact ⟨rfl, by omega, by omega⟩
  · refine ⟨?_, by omega, by omega⟩
    rw [Int.toNat_natCast, List.take_of_length_le (Nat.le_refl _), List.take_of_length_le (by omega)]
theorem loss15 (o : Int) {c : List Int} (hc : c.length ≤ 8) : history_History_Loss.f o c = some (((c.length : Int) == 0), 0, (o :: c).take 8) := by
  unfold history_History_Loss.f
  have e : slices_Insert_int_int.f c 0 [o] = some (o :: c) := by
    unfold slices_Insert_int_int.f
    rw [if_pos ⟨rfl, rfl, by omega⟩]; rfl
  refine bs e ?_
  obtain ⟨e1, e2, e3⟩ := take_mn (o :: c)
  rw [if_pos e2, if_pos e3, e1]
theorem lose15 (n0 : Int) (o0 : Bool) (n1 : Int) (o1 : Bool) (n2 : Int) (o2 : Bool) (n3 : Int) (o3 : Bool) (n4 : Int) (o4 : Bool) (n5 : Int) (o5 : Bool) (n6 : Int) (o6 : Bool) (n7 : Int) (o7 : Bool) (h : Int) {c : List Int} (l b : Int) (s : Bool) (hc : c.length ≤ 8) (g t r : Int) :
    ∃ (ev : Bool) (h' : Int) (c' : List Int) (b' : Int) (s' : Bool),
      detect_Detect_lose.f n0 o0 n1 o1 n2 o2 n3 o3 n4 o4 n5 o5 n6 o6 n7 o7 h c l b s g t r = some (g, ev, ev && ((c.length : Int) == 0), n0, o0, n1, o1, n2, o2, n3, o3, n4, o4, n5, o5, n6, o6, n7, o7, h', c', l, b', s') ∧
      ev = (!s || decide (wrap64 (t - b) > r)) ∧ c'.length ≤ 8 ∧ (ev = true → b' = t ∧ s' = true ∧ c'.length ≠ 0) ∧ (ev = false → c' = c ∧ b' = b ∧ s' = s) := by
  have ht : ((h :: c).take 8).length ≤ 8 ∧ ((h :: c).take 8).length ≠ 0 := by
    rw [List.length_take, List.length_cons]; omega
  unfold detect_Detect_lose.f
  cases s
  · rw [if_neg (by simp), loss15 h hc]
    exact ⟨true, 0, _, t, true, by simp, by simp, ht.1, fun _ => ⟨rfl, rfl, ht.2⟩, by simp⟩
  · rw [if_pos rfl]
    by_cases c1 : wrap64 (t - b) > r
    · rw [if_pos c1, loss15 h hc]
      exact ⟨true, 0, _, t, true, by simp [c1], by simp [c1], ht.1, fun _ => ⟨rfl, rfl, ht.2⟩, by simp⟩
    · rw [if_neg c1]
      exact ⟨false, h, c, b, true, by simp [c1], by simp [c1], hc, by simp, fun _ => ⟨rfl, rfl, rfl⟩⟩
theorem took15 (n0 : Int) (o0 : Bool) (n1 : Int) (o1 : Bool) (n2 : Int) (o2 : Bool) (n3 : Int) (o3 : Bool) (n4 : Int) (o4 : Bool) (n5 : Int) (o5 : Bool) (n6 : Int) (o6 : Bool) (n7 : Int) (o7 : Bool) (h : Int) (c : List Int) (l b : Int) (s : Bool) {a : Int} (ha : 0 ≤ a ∧ a < 8) (q n : Int) :
    ∃ (p0 : Int) (q0 : Bool) (p1 : Int) (q1 : Bool) (p2 : Int) (q2 : Bool) (p3 : Int) (q3 : Bool) (p4 : Int) (q4 : Bool) (p5 : Int) (q5 : Bool) (p6 : Int) (q6 : Bool) (p7 : Int) (q7 : Bool) (h' : Int), detect_Detect_took.f n0 o0 n1 o1 n2 o2 n3 o3 n4 o4 n5 o5 n6 o6 n7 o7 h c l b s a q n = some (p0, q0, p1, q1, p2, q2, p3, q3, p4, q4, p5, q5, p6, q6, p7, q7, h', c, l, b, s) := by
  obtain ⟨e1, h1⟩ := packet15 h c n
  obtain ⟨e2, h2⟩ := packet15 (pk h n) c 1
  unfold detect_Detect_took.f
  simp only [serial_Next.f, Option.bind_some, h1, h2]
  rcases (show a = 0 ∨ a = 1 ∨ a = 2 ∨ a = 3 ∨ a = 4 ∨ a = 5 ∨ a = 6 ∨ a = 7 by omega) with rfl | rfl | rfl | rfl | rfl | rfl | rfl | rfl <;>
    exact ⟨_, _, _, _, _, _, _, _, _, _, _, _, _, _, _, _, _, rfl⟩
theorem on_j1 (n0 : Int) (o0 : Bool) (n1 : Int) (o1 : Bool) (n2 : Int) (o2 : Bool) (n3 : Int) (o3 : Bool) (n4 : Int) (o4 : Bool) (n5 : Int) (o5 : Bool) (n6 : Int) (o6 : Bool) (n7 : Int) (o7 : Bool) (h : Int) (c : List Int) (l b : Int) (s : Bool) {a : Int} (ha : 0 ≤ a ∧ a < 8) (q : Int) {t r : Int} (ht : 0 ≤ t ∧ t ≤ 1099511627776) (hr : 0 ≤ r ∧ r ≤ 1099511627776) (hl : l ≤ t) (k : Nat) :
    detect_Detect_On.f (k + 1) n0 o0 n1 o1 n2 o2 n3 o3 n4 o4 n5 o5 n6 o6 n7 o7 h c l b s a q t r =
      detect_Detect_On.j1 k a q t r (gp (rd ([n0, n1, n2, n3, n4, n5, n6, n7] : List Int) a) q) (!(rdOf false ([o0, o1, o2, o3, o4, o5, o6, o7] : List Bool) a) || decide (q = rd ([n0, n1, n2, n3, n4, n5, n6, n7] : List Int) a) || decide (gp (rd ([n0, n1, n2, n3, n4, n5, n6, n7] : List Int) a) q > 256)) n0 o0 n1 o1 n2 o2 n3 o3 n4 o4 n5 o5 n6 o6 n7 o7 t b s h c 0 false false := by
  unfold detect_Detect_On.f
  rw [has15 ha]; refine bs rfl ?_
  rw [if_pos rfl, time15 ht]; refine bs rfl ?_
  rw [if_pos rfl, time15 hr]; refine bs rfl ?_
  simp only [detect_Detect_On.j0]
  rw [if_neg (by simp), if_neg (by omega), if_pos ha.1, if_pos ha.2, gap15]
  refine bs rfl ?_
  by_cases c1 : rdOf false ([o0, o1, o2, o3, o4, o5, o6, o7] : List Bool) a = true
  · rw [if_pos c1]
    by_cases c2 : q = rd ([n0, n1, n2, n3, n4, n5, n6, n7] : List Int) a
    · rw [if_pos c2, show (!(rdOf false ([o0, o1, o2, o3, o4, o5, o6, o7] : List Bool) a) || decide (q = rd ([n0, n1, n2, n3, n4, n5, n6, n7] : List Int) a) || decide (gp (rd ([n0, n1, n2, n3, n4, n5, n6, n7] : List Int) a) q > 256)) = true from by rw [decide_eq_true c2]; simp]
    · rw [if_neg c2, show (!(rdOf false ([o0, o1, o2, o3, o4, o5, o6, o7] : List Bool) a) || decide (q = rd ([n0, n1, n2, n3, n4, n5, n6, n7] : List Int) a) || decide (gp (rd ([n0, n1, n2, n3, n4, n5, n6, n7] : List Int) a) q > 256)) = decide (gp (rd ([n0, n1, n2, n3, n4, n5, n6, n7] : List Int) a) q > 256) from by rw [decide_eq_false c2, c1]; simp]
  · rw [if_neg c1, show (!(rdOf false ([o0, o1, o2, o3, o4, o5, o6, o7] : List Bool) a) || decide (q = rd ([n0, n1, n2, n3, n4, n5, n6, n7] : List Int) a) || decide (gp (rd ([n0, n1, n2, n3, n4, n5, n6, n7] : List Int) a) q > 256)) = true from by rw [Bool.eq_false_iff.2 c1]; simp]
theorem on15 (n0 : Int) (o0 : Bool) (n1 : Int) (o1 : Bool) (n2 : Int) (o2 : Bool) (n3 : Int) (o3 : Bool) (n4 : Int) (o4 : Bool) (n5 : Int) (o5 : Bool) (n6 : Int) (o6 : Bool) (n7 : Int) (o7 : Bool) (h : Int) {c : List Int} (l b : Int) (s : Bool) (hc : c.length ≤ 8) {a : Int} (ha : 0 ≤ a ∧ a < 8) (q : Int) {t r : Int} (ht : 0 ≤ t ∧ t ≤ 1099511627776) (hr : 0 ≤ r ∧ r ≤ 1099511627776) (hl : l ≤ t) {k : Nat} (hk : 3 < k) :
    ∃ (g : Int) (ev : Bool) (p0 : Int) (q0 : Bool) (p1 : Int) (q1 : Bool) (p2 : Int) (q2 : Bool) (p3 : Int) (q3 : Bool) (p4 : Int) (q4 : Bool) (p5 : Int) (q5 : Bool) (p6 : Int) (q6 : Bool) (p7 : Int) (q7 : Bool) (h' : Int) (c' : List Int) (b' : Int) (s' : Bool),
      detect_Detect_On.f k n0 o0 n1 o1 n2 o2 n3 o3 n4 o4 n5 o5 n6 o6 n7 o7 h c l b s a q t r = some (g, ev, ev && ((c.length : Int) == 0), 0, p0, q0, p1, q1, p2, q2, p3, q3, p4, q4, p5, q5, p6, q6, p7, q7, h', c', t, b', s') ∧
      0 ≤ g ∧ ev = (decide (g > 0) && (!s || decide (wrap64 (t - b) > r))) ∧ c'.length ≤ 8 ∧ (ev = true → b' = t ∧ s' = true ∧ c'.length ≠ 0) ∧ (ev = false → c' = c ∧ b' = b ∧ s' = s) := by
  obtain ⟨k, rfl, hk⟩ := fuel hk
  obtain ⟨k, rfl, hk⟩ := fuel (show 2 < k by omega)
  rw [on_j1 n0 o0 n1 o1 n2 o2 n3 o3 n4 o4 n5 o5 n6 o6 n7 o7 h c l b s ha q ht hr hl]
  generalize (!(rdOf false ([o0, o1, o2, o3, o4, o5, o6, o7] : List Bool) a) || decide (q = rd ([n0, n1, n2, n3, n4, n5, n6, n7] : List Int) a) || decide (gp (rd ([n0, n1, n2, n3, n4, n5, n6, n7] : List Int) a) q > 256)) = t52
  generalize gp (rd ([n0, n1, n2, n3, n4, n5, n6, n7] : List Int) a) q = g
  simp only [detect_Detect_On.j1]
  cases t52
  · rw [if_neg (by simp)]
    by_cases cg : g > 0
    · rw [if_pos cg]
      obtain ⟨ev, h', c', b', s', e, h1, h2, h3, h4⟩ := lose15 n0 o0 n1 o1 n2 o2 n3 o3 n4 o4 n5 o5 n6 o6 n7 o7 h t b s hc g t r
      simp only [e, Option.bind_some]
      obtain ⟨p0, q0, p1, q1, p2, q2, p3, q3, p4, q4, p5, q5, p6, q6, p7, q7, h2', e2⟩ := took15 n0 o0 n1 o1 n2 o2 n3 o3 n4 o4 n5 o5 n6 o6 n7 o7 h' c' t b' s' ha q g
      simp only [e2, Option.bind_some]
      exact ⟨g, ev, p0, q0, p1, q1, p2, q2, p3, q3, p4, q4, p5, q5, p6, q6, p7, q7, h2', c', b', s', rfl, by omega, by rw [h1, decide_eq_true cg]; simp, h2, h3, h4⟩
    · rw [if_neg cg]
      exact ⟨0, false, n0, o0, n1, o1, n2, o2, n3, o3, n4, o4, n5, o5, n6, o6, n7, o7, h, c, b, s, rfl, by omega, by simp, hc, by simp, fun _ => ⟨rfl, rfl, rfl⟩⟩
  · rw [if_pos rfl]
    obtain ⟨p0, q0, p1, q1, p2, q2, p3, q3, p4, q4, p5, q5, p6, q6, p7, q7, h2', e2⟩ := took15 n0 o0 n1 o1 n2 o2 n3 o3 n4 o4 n5 o5 n6 o6 n7 o7 h c t b s ha q 0
    simp only [e2, Option.bind_some]
    exact ⟨0, false, p0, q0, p1, q1, p2, q2, p3, q3, p4, q4, p5, q5, p6, q6, p7, q7, h2', c, b, s, rfl, by omega, by simp, hc, by simp, fun _ => ⟨rfl, rfl, rfl⟩⟩
theorem and7 (x : Int) : 0 ≤ Go.bits .and .i64 x 7 ∧ Go.bits .and .i64 x 7 < 8 := by
  have h : (BitVec.ofInt IntKind.i64.bits x &&& BitVec.ofInt IntKind.i64.bits 7).toNat ≤ 7 := by
    rw [BitVec.toNat_and]; exact Nat.le_trans Nat.and_le_right (by decide)
  unfold Go.bits
  simp only
  generalize (BitVec.ofInt IntKind.i64.bits x &&& BitVec.ofInt IntKind.i64.bits 7).toNat = n at h
  simp only [IntKind.wrap, IntKind.bits, IntKind.signed]
  simp
  omega
theorem mid_f (x : Int) : 0 ≤ mn (mx x 0) 1000 ∧ mn (mx x 0) 1000 ≤ 1000 := by
  unfold mn mx; (repeat' split) <;> omega
theorem groups_l (r : Int) (hr : 0 ≤ r ∧ r ≤ 1099511627776) (L : List S29) (hL : L.length ≤ 100) (D : Nat) :
    ∀ (m : Nat) (n0 : Int) (o0 : Bool) (n1 : Int) (o1 : Bool) (n2 : Int) (o2 : Bool) (n3 : Int) (o3 : Bool) (n4 : Int) (o4 : Bool) (n5 : Int) (o5 : Bool) (n6 : Int) (o6 : Bool) (n7 : Int) (o7 : Bool) (h : Int) (c : List Int) (T b : Int) (s : Bool), m + D = L.length → c.length ≤ 8 → ((c.length : Int) == 0) = !s → 0 ≤ T → T ≤ 1000 * m →
      ∀ k, D + 1100 ≤ k → terracelaw15_DetectGroups.l0 (k + D) r T b s L (L.length : Int) (m : Int) n0 o0 n1 o1 n2 o2 n3 o3 n4 o4 n5 o5 n6 o6 n7 o7 T b s h c = some true := by
  induction D with
  | zero =>
    intro m n0 o0 n1 o1 n2 o2 n3 o3 n4 o4 n5 o5 n6 o6 n7 o7 h c T b s hm hc hcs hT hT2 k hk
    obtain ⟨k, rfl, hk⟩ := fuel (show 1099 < k by omega)
    rw [Nat.add_zero]
    simp only [terracelaw15_DetectGroups.l0]
    rw [if_neg (by omega)]
    exact bs (awake15_k (by omega)) rfl
  | succ D ih =>
    intro m n0 o0 n1 o1 n2 o2 n3 o3 n4 o4 n5 o5 n6 o6 n7 o7 h c T b s hm hc hcs hT hT2 k hk
    obtain ⟨k, rfl, hk⟩ := fuel (show D + 1100 < k by omega)
    rw [show k + 1 + (D + 1) = k + D + 1 + 1 by omega]
    simp only [terracelaw15_DetectGroups.l0]
    rw [if_pos (by omega), if_pos (by omega), if_pos (by omega)]
    obtain ⟨T', hT', e0⟩ : ∃ T', T' = wrap64 (T + mn (mx (rd_T29 L m).f3 0) 1000) ∧ T ≤ T' ∧ T' ≤ T + 1000 := by
      have := mid_f (rd_T29 L m).f3
      refine ⟨_, rfl, ?_⟩
      rw [w64 (by omega) (by omega)]
      omega
    rw [← hT']
    obtain ⟨g, ev, p0, q0, p1, q1, p2, q2, p3, q3, p4, q4, p5, q5, p6, q6, p7, q7, h', c', b', s', e, h0, h1, h2, h3, h4⟩ := on15 n0 o0 n1 o1 n2 o2 n3 o3 n4 o4 n5 o5 n6 o6 n7 o7 h T b s hc (and7 (rd_T29 L m).f1) (rd_T29 L m).f2 (t := T') (r := r) (by omega) hr (by omega) (show 3 < k + D + 1 by omega)
    rw [e]
    refine bs rfl ?_
    dsimp only
    rw [if_pos rfl, hcs]
    rw [hcs] at e
    have hcs' : ((c'.length : Int) == 0) = !s' := by
      cases ev
      · obtain ⟨rfl, rfl, rfl⟩ := h4 rfl; exact hcs
      · obtain ⟨_, rfl, h5⟩ := h3 rfl
        rw [Bool.not_true, beq_eq_false_iff_ne]; omega
    have hn := ih (m + 1) p0 q0 p1 q1 p2 q2 p3 q3 p4 q4 p5 q5 p6 q6 p7 q7 h' c' T' b' s' (by omega) h2 hcs' (by omega) (by omega) k (by omega)
    rw [Int.natCast_add, Int.natCast_one] at hn
    have hgo : terracelaw15_DetectGroups.j2 (k + D + 1) r T' b s L (L.length : Int) (m : Int) (decide (g < 0)) p0 q0 p1 q1 p2 q2 p3 q3 p4 q4 p5 q5 p6 q6 p7 q7 T' b' s' h' c' g ev (ev && !s) = some true := by
      rw [decide_eq_false (by omega)]
      simp only [terracelaw15_DetectGroups.j2]
      rw [if_neg (by simp), w64 (n := (m : Int) + 1) (by omega) (by omega)]
      cases ev
      · obtain ⟨rfl, rfl, rfl⟩ := h4 rfl
        rw [if_neg (by simp)]; exact hn
      · obtain ⟨rfl, rfl, h5⟩ := h3 rfl
        rw [if_pos rfl]; exact hn
    by_cases cg : g > 0
    · rw [if_pos cg]
      rw [decide_eq_true cg, Bool.true_and] at h1
      cases s
      · rw [Bool.not_false, Bool.true_or] at h1
        subst h1
        rw [if_neg (by simp), if_neg (by simp), if_pos rfl, if_neg (by simp)]
        exact hgo
      · rw [Bool.not_true, Bool.false_or] at h1
        rw [if_pos rfl, if_neg (by rw [← h1]; simp)]
        cases ev
        · rw [if_neg (by simp), if_neg (by simp)]; exact hgo
        · rw [if_pos rfl, if_neg (by simp)]; exact hgo
    · rw [if_neg cg]
      rw [decide_eq_false cg, Bool.false_and] at h1
      subst h1
      rw [if_neg (by simp), if_neg (by simp), if_neg (by simp)]
      exact hgo
theorem DetectGroups : terracelaw15_DetectGroups.Pure := by
  intro L r hL hok hr
  refine ⟨5000, ?_⟩
  unfold terracelaw15_DetectGroups.f detect_New.f history_New.f
  refine bs rfl ?_
  dsimp only
  by_cases c1 : (L.length : Int) > 100
  · rw [if_pos c1]
    simp only [terracelaw15_DetectGroups.j0]
    rw [if_pos trivial]
    exact bs (awake15_k (by omega)) rfl
  rw [if_neg c1]
  obtain ⟨t, ht, ht2⟩ : ∃ t, terracelaw15_within.f r = some t ∧ (t = true → 0 ≤ r ∧ r ≤ 1099511627776) := by
    unfold terracelaw15_within.f
    by_cases c2 : r ≥ 0
    · rw [if_pos c2]; exact ⟨_, rfl, fun h => ⟨c2, by simpa using h⟩⟩
    · rw [if_neg c2]; exact ⟨_, rfl, by simp⟩
  refine bs ht ?_
  simp only [terracelaw15_DetectGroups.j0]
  cases t
  · rw [Bool.not_false, if_pos rfl]
    exact bs (awake15_k (by omega)) rfl
  · rw [if_neg (by simp)]
    have := groups_l r (ht2 rfl) L (by omega) L.length 0 0 false 0 false 0 false 0 false 0 false 0 false 0 false 0 false 0 [] 0 0 false (by omega) (by simp) (by simp) (by omega) (by omega) (4999 - L.length) (by omega)
    rw [show 4999 - L.length + L.length = 4999 by omega] at this
    exact this

end Go.Proofs.Ytobipigioaoaiaa.Pure
