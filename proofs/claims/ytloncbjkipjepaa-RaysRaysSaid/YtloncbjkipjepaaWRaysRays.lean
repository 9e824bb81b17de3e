/- The walk of RaysRays. -/
import Derived.Test.YtloncbjkipjepaaY1
import Derived.Test.YtloncbjkipjepaaYR
namespace Go.Proofs.Ytloncbjkipjepaa
open Go Go.RowKit

set_option maxHeartbeats 1600000 in
theorem raysRays_walk (a0 : Int) (a1 : Int) (_w0 : (Lit.int .i64 a0).wf = true) (_w1 : (Lit.int .i64 a1).wf = true) (w : World) :
    Calls Try.prog 3 #[.int .i64 a0, .int .i64 a1] w fun e w' => e = .returned (.bool true) ∧ Below w.heap.size w w' := by
  go_enter Try.func3, Try.ntmps3
  have hb := Below.refl w.heap.size w
  go_wp2_with fail
  refine (ray_any a0 a1 _).mono ?_
  rintro e w1 ⟨rfl, h1⟩
  have hb := hb.trans (h1.mono hb.size)
  clear h1
  go_wp2_with fail
  refine (rray_any a0 a1 _).mono ?_
  rintro e w2 ⟨rfl, h1⟩
  have hb := hb.trans (h1.mono hb.size)
  clear h1
  go_wp2
  go_ret
  exact ⟨rfl, hb⟩

end Go.Proofs.Ytloncbjkipjepaa
