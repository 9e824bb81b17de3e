/- The walk of BoardPuts. -/
import Derived.Test.YtlobmhhilkmfdaaPN
import Derived.Test.YtlobmhhilkmfdaaPR
import Derived.Test.YtlobmhhilkmfdaaPE
namespace Go.Proofs.Ytlobmhhilkmfdaa
open Go Go.RowKit

set_option maxHeartbeats 4000000 in
theorem boardPuts_walk (n : Nat → Int) (a1 : Int) (a2 : Int) (w0 : PosOk n) (_w1 : (Lit.int .i64 a1).wf = true) (w2 : (Lit.int .u8 a2).wf = true) (w : World) :
    Calls Try.prog 3 #[.agg (posA n), .int .i64 a1, .int .u8 a2] w fun e w' => e = .returned (.bool true) ∧ Below w.heap.size w w' := by
  obtain ⟨x0, x1⟩ := wf_u8 w2
  have K1 := w0.put a1 a2 x0 x1
  have K2 := w0.mir
  have E1 := eqP_self (putN n a1 a2)
  have E2 := eqP_self (mirN n)
  obtain ⟨X, hX⟩ : ∃ X, w.alloc (.cells (posA n) 31) = X := ⟨_, rfl⟩
  obtain ⟨p0, hb⟩ := box1 w n X hX
  have HX := hideIt hX
  clear hX
  go_enter Try.func3, Try.ntmps3
  go_wp2_with (rw [HX.out])
  go_region_held3 (fun W => (IsPos W w.heap.size ∧ rowOf W w.heap.size = posA n) ∧ Below X.heap.size X W) ((refine keepP p0 ?_; repeat (first | exact Below.refl _ _ | assumption | refine bl_drew ?_ | refine bl_new ?_ (Nat.le_refl _) | refine bl_then ?_ (by assumption)))) ((first | (go_at_call 4; refine (bput_any _ _ _ x0 x1 _).mono ?_; rintro e w31 ⟨rfl, h1⟩) | (go_at_call 5; refine (rbput_any _ _ _ _).mono ?_; rintro e w31 ⟨rfl, h1⟩) | (go_at_call 6; refine (mirror_any _ w0 _).mono ?_; rintro e w31 ⟨rfl, h1⟩) | (go_at_call 7; refine (rmirror_any _ w0 _).mono ?_; rintro e w31 ⟨rfl, h1⟩)))
  all_goals
    have hq := And.right ‹(IsPos _ _ ∧ _) ∧ Below X.heap.size X _›
    go_wp2
    go_ret
    exact ⟨rfl, hb.trans (hq.mono hb.size)⟩

end Go.Proofs.Ytlobmhhilkmfdaa
