/- The walk of BitsSteps. -/
import Derived.Test.YtndijfckmokgbaaB2
import Derived.Test.YtndijfckmokgbaaR3
namespace Go.Proofs.Ytndijfckmokgbaa
open Go Go.RowKit

set_option maxHeartbeats 400000 in
theorem bitsSteps_walk (a0 : Int) (a1 : Int) (w0 : (Lit.int .u64 a0).wf = true) (_w1 : (Lit.int .i64 a1).wf = true) (w : World) :
    Calls Try.prog 4 #[.int .u64 a0, .int .i64 a1] w fun e w' => e = .returned (.bool true) ∧ Below w.heap.size w w' := by
  obtain ⟨b, rfl⟩ := of_wf w0
  go_enter Try.func4, Try.ntmps4
  go_wp2_with fail
  refine (shift_any b rfl _ _).mono ?_
  rintro e w1 ⟨rfl, h1⟩
  go_wp2_with fail
  refine (rshift_any b rfl _ _).mono ?_
  rintro e w2 ⟨rfl, h2⟩
  go_wp2_with fail
  refine (flip_any b rfl _).mono ?_
  rintro e w3 ⟨rfl, rfl⟩
  go_wp2_with fail
  refine (rflip_any b rfl _).mono ?_
  rintro e w4 ⟨rfl, h4⟩
  go_wp2
  go_ret
  have h12 := h1.trans (h2.mono h1.size)
  exact ⟨rfl, h12.trans (h4.mono h12.size)⟩

end Go.Proofs.Ytndijfckmokgbaa
