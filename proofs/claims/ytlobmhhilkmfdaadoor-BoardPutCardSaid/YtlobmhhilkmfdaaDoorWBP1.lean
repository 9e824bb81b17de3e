/- BoardPut: a new block beside a call. -/
import Derived.Test.YtlobmhhilkmfdaaDoorWBP0
namespace Go.Proofs.YtlobmhhilkmfdaaDoor
open Go Go.RowKit
set_option linter.unusedVariables false

theorem bl_r1 {w w' : World} {o : Obj} {c : Array Value} (h : Below w.heap.size w w') : Below w.heap.size w ((w'.alloc o).setRow w'.heap.size c) := below_setRow (h.alloc h.size o) h.size c
theorem bl_r2 {w w' : World} {c : Array Value} (h : Below w.heap.size w w') : Below w.heap.size w (w'.setRow w.heap.size c) := below_setRow h (Nat.le_refl _) c
theorem bl_r4 {w w' u : World} {c : Array Value} (h : Below w.heap.size w w') (hu : Below w.heap.size w u) : Below w.heap.size w (w'.setRow u.heap.size c) := below_setRow h hu.size c
theorem at_new (n : Nat → Int) (hn : PosOk n) (s : Int) (U : World) :
    Calls Tryd.prog 10 #[.agg (posA n), .int .i64 s] (U.alloc (.cells (posA zeroN) 31)).drew fun e w' => e = .returned (.int .u8 (atN n s)) ∧ Below (U.alloc (.cells (posA zeroN) 31)).drew.heap.size (U.alloc (.cells (posA zeroN) 31)).drew w' ∧ PosAt w' U.heap.size zeroN :=
  (at_any n hn s _).mono fun e w' ⟨h1, h2⟩ => ⟨h1, h2, PosAt.below (w := (U.alloc (.cells (posA zeroN) 31)).drew) (PosAt.new U zeroN) h2 (PosAt.new U zeroN).lt⟩
theorem put_new (m : Nat → Int) (s x : Int) (h0 : 0 ≤ x) (h1 : x ≤ 255) (U : World) :
    Calls Tryd.prog 28 #[.agg (posA m), .int .i64 s, .int .u8 x] (U.alloc (.cells (posA zeroN) 31)) fun e w' => e = .returned (.agg (posA (putN m s x))) ∧ Below (U.alloc (.cells (posA zeroN) 31)).heap.size (U.alloc (.cells (posA zeroN) 31)) w' ∧ PosAt w' U.heap.size zeroN :=
  (bput_any m s x h0 h1 _).mono fun e w' ⟨h1, h2⟩ => ⟨h1, h2, PosAt.below (PosAt.new U zeroN) h2 (PosAt.new U zeroN).lt⟩

end Go.Proofs.YtlobmhhilkmfdaaDoor
