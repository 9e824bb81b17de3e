/- Walks of the reference of bits: Step, Shift, Flip. Lines alike written by gen_r3.py. -/
import Derived.Test.YtnbfgangmkfolaaDoorR3a
import Derived.Test.YtnbfgangmkfolaaDoorR3b
namespace Go.Proofs.YtnbfgangmkfolaaDoor
open Go Go.RowKit

theorem stepI_no {s dir : Int} (h : ¬ (0 ≤ s ∧ s < 64 ∧ 0 ≤ dir ∧ dir < 8)) : stepI s dir = -1 := if_neg h

theorem rstep_out (s dir : Int) (h : ¬ (0 ≤ s ∧ s < 64 ∧ 0 ≤ dir ∧ dir < 8)) (w : World) :
    Calls Tryd.prog 53 #[.int .i64 s, .int .i64 dir] w fun e w' => e = .returned (.int .i64 (stepI s dir)) ∧ Below w.heap.size w w' := by
  have hc : s < 0 ∨ (0 ≤ s ∧ 63 < s) ∨ (0 ≤ s ∧ s ≤ 63 ∧ dir < 0) ∨ (0 ≤ s ∧ s ≤ 63 ∧ 0 ≤ dir ∧ 7 < dir) := by omega
  rcases hc with h1 | ⟨h0, h1⟩ | ⟨h0, h1, h2⟩ | ⟨h0, h1, h2, h3⟩
  all_goals
    go_enter Tryd.func53, Tryd.ntmps53
    go_wp2
    go_ret
    exact ⟨ret_int (stepI_no h).symm, ((Below.refl _ _).alloc (Nat.le_refl _) _).alloc (by simp) _⟩

theorem rstep_any (s dir : Int) (w : World) :
    Calls Tryd.prog 53 #[.int .i64 s, .int .i64 dir] w fun e w' => e = .returned (.int .i64 (stepI s dir)) ∧ Below w.heap.size w w' := by
  by_cases h : 0 ≤ s ∧ s < 64 ∧ 0 ≤ dir ∧ dir < 8
  · rcases dir_cases h.2.2.1 h.2.2.2 with rfl | rfl | rfl | rfl | rfl | rfl | rfl | rfl
    · exact rstep_0 s h.1 h.2.1 w
    · exact rstep_1 s h.1 h.2.1 w
    · exact rstep_2 s h.1 h.2.1 w
    · exact rstep_3 s h.1 h.2.1 w
    · exact rstep_4 s h.1 h.2.1 w
    · exact rstep_5 s h.1 h.2.1 w
    · exact rstep_6 s h.1 h.2.1 w
    · exact rstep_7 s h.1 h.2.1 w
  · exact rstep_out s dir h w



end Go.Proofs.YtnbfgangmkfolaaDoor
