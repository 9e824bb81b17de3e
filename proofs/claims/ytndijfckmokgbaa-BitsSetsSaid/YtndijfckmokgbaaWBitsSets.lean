/- The walk of BitsSets. -/
import Derived.Test.YtndijfckmokgbaaB1
import Derived.Test.YtndijfckmokgbaaR1
namespace Go.Proofs.Ytndijfckmokgbaa
open Go Go.RowKit

set_option maxHeartbeats 400000 in
theorem bitsSets_walk (a0 : Int) (a1 : Int) (w0 : (Lit.int .u64 a0).wf = true) (_w1 : (Lit.int .i64 a1).wf = true) (w : World) :
    Calls Try.prog 3 #[.int .u64 a0, .int .i64 a1] w fun e w' => e = .returned (.bool true) ∧ Below w.heap.size w w' := by
  obtain ⟨b, rfl⟩ := of_wf w0
  go_enter Try.func3, Try.ntmps3
  go_wp2_with fail
  refine (has_any b rfl _ _).mono ?_
  rintro e w' ⟨rfl, rfl⟩
  go_wp2_with fail
  refine (rhas_any b rfl _ _).mono ?_
  rintro e w' ⟨rfl, rfl⟩
  go_wp2_with fail
  refine (put_any b rfl _ _).mono ?_
  rintro e w' ⟨rfl, rfl⟩
  go_wp2_with fail
  refine (rput_any b rfl _ _).mono ?_
  rintro e w' ⟨rfl, rfl⟩
  go_wp2_with fail
  refine (clear_any b rfl _ _).mono ?_
  rintro e w' ⟨rfl, rfl⟩
  go_wp2_with fail
  refine (rclear_any b rfl _ _).mono ?_
  rintro e w' ⟨rfl, rfl⟩
  go_wp2
  go_ret
  exact ⟨rfl, Below.refl _ _⟩

end Go.Proofs.Ytndijfckmokgbaa
