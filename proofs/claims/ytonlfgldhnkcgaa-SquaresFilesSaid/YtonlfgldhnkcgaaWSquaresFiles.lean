/- The walk of SquaresFiles. -/
import Derived.Test.YtonlfgldhnkcgaaS1
import Derived.Test.YtonlfgldhnkcgaaSR
namespace Go.Proofs.Ytonlfgldhnkcgaa
open Go Go.RowKit

set_option maxHeartbeats 800000 in
theorem squaresFiles_walk (a0 : Int) (a1 : Int) (a2 : Int) (_w0 : (Lit.int .i64 a0).wf = true) (_w1 : (Lit.int .i64 a1).wf = true) (_w2 : (Lit.int .i64 a2).wf = true) (w : World) :
    Calls Try.prog 3 #[.int .i64 a0, .int .i64 a1, .int .i64 a2] w fun e w' => e = .returned (.bool true) ∧ Below w.heap.size w w' := by
  go_enter Try.func3, Try.ntmps3
  have hb := Below.refl w.heap.size w
  go_wp2_with fail
  refine (sOf_any a1 a2 _).mono ?_
  rintro e w1 ⟨rfl, rfl⟩
  go_wp2_with fail
  refine (rOf_any a1 a2 _).mono ?_
  rintro e w2 ⟨rfl, rfl⟩
  go_wp2_with fail
  refine (sFile_any a0 _).mono ?_
  rintro e w3 ⟨rfl, h1⟩
  have hb := hb.trans (h1.mono hb.size)
  clear h1
  go_wp2_with fail
  refine (rFile_any a0 _).mono ?_
  rintro e w4 ⟨rfl, rfl⟩
  go_wp2_with fail
  refine (sRank_any a0 _).mono ?_
  rintro e w5 ⟨rfl, h1⟩
  have hb := hb.trans (h1.mono hb.size)
  clear h1
  go_wp2_with fail
  refine (rRank_any a0 _).mono ?_
  rintro e w6 ⟨rfl, rfl⟩
  go_wp2
  go_ret
  exact ⟨rfl, hb⟩

end Go.Proofs.Ytonlfgldhnkcgaa
