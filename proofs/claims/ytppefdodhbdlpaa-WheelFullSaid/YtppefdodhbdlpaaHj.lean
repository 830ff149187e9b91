import Derived.Test.YtppefdodhbdlpaaHi
namespace Go.Proofs.Ytppefdodhbdlpaa.H
open Go.RowKit Go.Shelf
set_option linter.unusedVariables false
set_option linter.unusedSimpArgs false
variable {w : World} {B g : Nat} {ks : Nat → Option Nat} {vs : Nat → Value} {S : Nat → List (Int × Int)} {now n : Int}
set_option maxHeartbeats 4000000 in
set_option maxRecDepth 100000 in
theorem stop_no (h : IsW w B g ks vs S now n) (id : Int) (hf : fnd S id = (0, 0, false)) :
    Calls Try.prog 18 #[.pointer (some ⟨g, 0, none⟩), .int .i64 id] w fun e w' => e = .returned (.int .i64 14) ∧ Below w.heap.size w w' := by
  have hcall := find_c h id
  rw [hf] at hcall
  dsimp only at hcall
  clear h hf
  go_enter Try.func18, Try.ntmps18
  go_wp2_with (go_at_call 26; refine hcall.mono ?_; rintro e w' ⟨rfl, hb'⟩)
  go_ret
  exact ⟨rfl, hb'⟩
set_option maxHeartbeats 4000000 in
set_option maxRecDepth 100000 in
theorem new_c (w : World) : Calls Try.prog 7 #[] w fun e w' => e = .returned (.pointer (some ⟨w.heap.size, 0, none⟩)) ∧ w' = w.alloc (.cells (wcells (fun _ => .slice none 0 0) 0 0).toArray 50) := by
  go_enter Try.func7, Try.ntmps7
  go_wp2
  go_ret
  exact ⟨rfl, rfl⟩
end Go.Proofs.Ytppefdodhbdlpaa.H
