/- The walk of SquaresApart. -/
import Derived.Test.YtonlfgldhnkcgaaS1
import Derived.Test.YtonlfgldhnkcgaaSR
namespace Go.Proofs.Ytonlfgldhnkcgaa
open Go Go.RowKit

set_option maxHeartbeats 800000 in
theorem squaresApart_walk (a0 : Int) (a1 : Int) (_w0 : (Lit.int .i64 a0).wf = true) (_w1 : (Lit.int .i64 a1).wf = true) (w : World) :
    Calls Try.prog 4 #[.int .i64 a0, .int .i64 a1] w fun e w' => e = .returned (.bool true) ∧ Below w.heap.size w w' := by
  go_enter Try.func4, Try.ntmps4
  have hb := Below.refl w.heap.size w
  go_wp2_with fail
  refine (sDistance_any a0 a1 _).mono ?_
  rintro e w1 ⟨rfl, h1⟩
  have hb := hb.trans (h1.mono hb.size)
  clear h1
  go_wp2_with fail
  refine (rDistance_any a0 a1 _).mono ?_
  rintro e w2 ⟨rfl, rfl⟩
  go_wp2_with fail
  refine (sFlip_any a0 _).mono ?_
  rintro e w3 ⟨rfl, h1⟩
  have hb := hb.trans (h1.mono hb.size)
  clear h1
  go_wp2_with fail
  refine (rFlip_any a0 _).mono ?_
  rintro e w4 ⟨rfl, rfl⟩
  go_wp2
  go_ret
  exact ⟨rfl, hb⟩

end Go.Proofs.Ytonlfgldhnkcgaa
