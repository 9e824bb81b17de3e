/- The walk of RaysSteps. -/
import Derived.Test.YtloncbjkipjepaaY1
import Derived.Test.YtloncbjkipjepaaY2
import Derived.Test.YtloncbjkipjepaaYS
namespace Go.Proofs.Ytloncbjkipjepaa
open Go Go.RowKit

set_option maxHeartbeats 1600000 in
theorem raysSteps_walk (a0 : Int) (a1 : Int) (_w0 : (Lit.int .u8 a0).wf = true) (_w1 : (Lit.int .i64 a1).wf = true) (w : World) :
    Calls Try.prog 4 #[.int .u8 a0, .int .i64 a1] w fun e w' => e = .returned (.bool true) ∧ Below w.heap.size w w' := by
  have HC : Hid (0 ≤ a0) := by
    have h := _w0
    simp [Lit.wf] at h
    have e1 : IntKind.u8.min = 0 := by decide
    show 0 ≤ a0
    omega
  go_enter Try.func4, Try.ntmps4
  have hb := Below.refl w.heap.size w
  go_wp2_with fail
  refine (king_any a1 _).mono ?_
  rintro e w1 ⟨rfl, h1⟩
  have hb := hb.trans (h1.mono hb.size)
  clear h1
  go_wp2_with fail
  refine (rking_any a1 _).mono ?_
  rintro e w2 ⟨rfl, rfl⟩
  go_wp2_with fail
  refine (knight_any a1 _).mono ?_
  rintro e w3 ⟨rfl, h1⟩
  have hb := hb.trans (h1.mono hb.size)
  clear h1
  go_wp2_with fail
  refine (rknight_any a1 _).mono ?_
  rintro e w4 ⟨rfl, rfl⟩
  go_wp2_with fail
  refine (pawn_any a0 a1 _).mono ?_
  rintro e w5 ⟨rfl, h1⟩
  have hb := hb.trans (h1.mono hb.size)
  clear h1
  go_wp2_with fail
  refine (rpawn_any a0 a1 HC.out _).mono ?_
  rintro e w6 ⟨rfl, rfl⟩
  go_wp2
  go_ret
  exact ⟨rfl, hb⟩

end Go.Proofs.Ytloncbjkipjepaa
