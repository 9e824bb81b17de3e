/- The walk of BitsFlipped. -/
import Derived.Test.YtndijfckmokgbaaDoorAw1
import Derived.Test.YtndijfckmokgbaaDoorBv
import Derived.Test.YtndijfckmokgbaaDoorU4
namespace Go.Proofs.YtndijfckmokgbaaDoor
open Go Go.RowKit

set_option maxHeartbeats 1000000 in
theorem bitsFlipped_walk (a0 a1 : Int) (w0 : (Lit.int .u64 a0).wf = true) (_w1 : (Lit.int .i64 a1).wf = true) (w : World) (hT : Tab w) :
    Calls Tryd.prog 7 #[.int .u64 a0, .int .i64 a1] w fun e w' => e = .returned (.bool true) ∧ Below w.heap.size w w' := by
  obtain ⟨b, rfl⟩ := of_wf w0
  rcases dir_any a1 with hd | hd | hd | hd | hd | hd | hd | hd
  all_goals
    go_enter Tryd.func7, Tryd.ntmps7
    go_wp2_with fail
    refine (awake_any _ hT).mono ?_
    rintro e w1 ⟨rfl, h1⟩
    go_wp2_with fail
    refine (flip_v b _ rfl _).mono ?_
    rintro e w' ⟨rfl, rfl⟩
    go_wp2_with fail
    refine (flip_v (flipB b) b (flip_flip b) _).mono ?_
    rintro e w' ⟨rfl, rfl⟩
    go_wp2_with fail
    refine (shift_v b _ _ rfl _).mono ?_
    rintro e w2 ⟨rfl, h2⟩
    have hb := h1.trans (h2.mono h1.size)
    clear h1 h2
    go_wp2_with fail
    refine (flip_v (shiftB b _) _ (flip_shiftI b _ (by decide)) _).mono ?_
    rintro e w' ⟨rfl, rfl⟩
    go_wp2_with fail
    refine (flip_v b _ rfl _).mono ?_
    rintro e w' ⟨rfl, rfl⟩
    go_wp2_with fail
    refine (shift_v (flipB b) _ _ rfl _).mono ?_
    rintro e w3 ⟨rfl, h3⟩
    have hb := hb.trans (h3.mono hb.size)
    clear h3
    go_wp2_with fail
    refine (flip_v b _ rfl _).mono ?_
    rintro e w' ⟨rfl, rfl⟩
    go_wp2_with fail
    refine (count_v (flipB b) _ (cnt_flip b) _).mono ?_
    rintro e w' ⟨rfl, rfl⟩
    go_wp2_with fail
    refine (count_v b _ rfl _).mono ?_
    rintro e w' ⟨rfl, rfl⟩
    go_wp2
    go_ret
    exact ⟨rfl, hb⟩

end Go.Proofs.YtndijfckmokgbaaDoor
