/- The walk of BitsBoth. -/
import Derived.Test.YtndijfckmokgbaaDoorAw1
import Derived.Test.YtndijfckmokgbaaDoorBv
import Derived.Test.YtndijfckmokgbaaDoorU4
namespace Go.Proofs.YtndijfckmokgbaaDoor
open Go Go.RowKit

set_option maxHeartbeats 1000000 in
theorem bitsBoth_walk (a0 a1 a2 : Int) (w0 : (Lit.int .u64 a0).wf = true) (w1 : (Lit.int .u64 a1).wf = true) (_w2 : (Lit.int .i64 a2).wf = true) (w : World) (hT : Tab w) :
    Calls Tryd.prog 6 #[.int .u64 a0, .int .u64 a1, .int .i64 a2] w fun e w' => e = .returned (.bool true) ∧ Below w.heap.size w w' := by
  obtain ⟨b, rfl⟩ := of_wf w0
  obtain ⟨c, rfl⟩ := of_wf w1
  go_enter Tryd.func6, Tryd.ntmps6
  go_wp2_with fail
  refine (awake_any _ hT).mono ?_
  rintro e w1 ⟨rfl, h1⟩
  go_wp2_with fail
  refine (shift_v (b ||| c) a2 _ ((lin_shiftB a2).join b c) _).mono ?_
  rintro e w2 ⟨rfl, h2⟩
  have hb := h1.trans (h2.mono h1.size)
  clear h1 h2
  go_wp2_with fail
  refine (shift_v b a2 _ rfl _).mono ?_
  rintro e w3 ⟨rfl, h3⟩
  have hb := hb.trans (h3.mono hb.size)
  clear h3
  go_wp2_with fail
  refine (shift_v c a2 _ rfl _).mono ?_
  rintro e w4 ⟨rfl, h4⟩
  have hb := hb.trans (h4.mono hb.size)
  clear h4
  go_wp2_with fail
  refine (shift_v (b &&& c) a2 _ (shift_both b c a2) _).mono ?_
  rintro e w5 ⟨rfl, h5⟩
  have hb := hb.trans (h5.mono hb.size)
  clear h5
  go_wp2_with fail
  refine (shift_v b a2 _ rfl _).mono ?_
  rintro e w6 ⟨rfl, h6⟩
  have hb := hb.trans (h6.mono hb.size)
  clear h6
  go_wp2_with fail
  refine (shift_v c a2 _ rfl _).mono ?_
  rintro e w7 ⟨rfl, h7⟩
  have hb := hb.trans (h7.mono hb.size)
  clear h7
  go_wp2_with fail
  refine (flip_v (b ||| c) _ (lin_flipB.join b c) _).mono ?_
  rintro e w' ⟨rfl, rfl⟩
  go_wp2_with fail
  refine (flip_v b _ rfl _).mono ?_
  rintro e w' ⟨rfl, rfl⟩
  go_wp2_with fail
  refine (flip_v c _ rfl _).mono ?_
  rintro e w' ⟨rfl, rfl⟩
  go_wp2
  go_ret
  exact ⟨rfl, hb⟩

end Go.Proofs.YtndijfckmokgbaaDoor
