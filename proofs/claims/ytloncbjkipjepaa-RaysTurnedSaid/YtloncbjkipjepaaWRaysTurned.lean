/- The walk of RaysTurned. -/
import Derived.Test.YtloncbjkipjepaaAw3
import Derived.Test.YtloncbjkipjepaaY4
namespace Go.Proofs.Ytloncbjkipjepaa
open Go Go.RowKit

set_option maxHeartbeats 1600000 in
theorem raysTurned_walk (a0 : Int) (a1 : Int) (_w0 : (Lit.int .i64 a0).wf = true) (_w1 : (Lit.int .i64 a1).wf = true) (w : World) :
    Calls Try.prog 6 #[.int .i64 a0, .int .i64 a1] w fun e w' => e = .returned (.bool true) ∧ Below w.heap.size w w' := by
  have T1 := hideIt (king_turn a0 a1)
  have T2 := hideIt (knight_turn a0 a1)
  have T3 := hideIt (pawn_turn a0 a1)
  have T4 := hideIt (bet_turn a0 a1)
  have T5 := hideIt (line_turn a0 a1)
  go_enter Try.func6, Try.ntmps6
  have hb := Below.refl w.heap.size w
  go_wp2_with fail
  refine (awake_any _).mono ?_
  rintro e w1 ⟨rfl, h1⟩
  have hb := hb.trans (h1.mono hb.size)
  clear h1
  go_wp2_with fail
  refine (king_any a0 _).mono ?_
  rintro e w2 ⟨rfl, h1⟩
  have hb := hb.trans (h1.mono hb.size)
  clear h1
  go_wp2_with fail
  refine (has_any (kingB a0) rfl a1 _).mono ?_
  rintro e w3 ⟨rfl, rfl⟩
  go_wp2_with fail
  refine (king_any a1 _).mono ?_
  rintro e w4 ⟨rfl, h1⟩
  have hb := hb.trans (h1.mono hb.size)
  clear h1
  go_wp2_with fail
  refine (has_any (kingB a1) rfl a0 _).mono ?_
  rintro e w5 ⟨rfl, rfl⟩
  rw [T1.out]
  go_wp2_with fail
  refine (knight_any a0 _).mono ?_
  rintro e w6 ⟨rfl, h1⟩
  have hb := hb.trans (h1.mono hb.size)
  clear h1
  go_wp2_with fail
  refine (has_any (knightB a0) rfl a1 _).mono ?_
  rintro e w7 ⟨rfl, rfl⟩
  go_wp2_with fail
  refine (knight_any a1 _).mono ?_
  rintro e w8 ⟨rfl, h1⟩
  have hb := hb.trans (h1.mono hb.size)
  clear h1
  go_wp2_with fail
  refine (has_any (knightB a1) rfl a0 _).mono ?_
  rintro e w9 ⟨rfl, rfl⟩
  rw [T2.out]
  go_wp2_with fail
  refine (pawn_any 0 a0 _).mono ?_
  rintro e w10 ⟨rfl, h1⟩
  have hb := hb.trans (h1.mono hb.size)
  clear h1
  go_wp2_with fail
  refine (has_any (pawnB 0 a0) rfl a1 _).mono ?_
  rintro e w11 ⟨rfl, rfl⟩
  go_wp2_with fail
  refine (pawn_any 1 a1 _).mono ?_
  rintro e w12 ⟨rfl, h1⟩
  have hb := hb.trans (h1.mono hb.size)
  clear h1
  go_wp2_with fail
  refine (has_any (pawnB 1 a1) rfl a0 _).mono ?_
  rintro e w13 ⟨rfl, rfl⟩
  rw [T3.out]
  go_wp2_with fail
  refine (between_any a0 a1 _).mono ?_
  rintro e w14 ⟨rfl, h1⟩
  have hb := hb.trans (h1.mono hb.size)
  clear h1
  go_wp2_with fail
  refine (between_any a1 a0 _).mono ?_
  rintro e w15 ⟨rfl, h1⟩
  have hb := hb.trans (h1.mono hb.size)
  clear h1
  rw [T4.out]
  go_wp2_with fail
  refine (line_any a0 a1 _).mono ?_
  rintro e w16 ⟨rfl, h1⟩
  have hb := hb.trans (h1.mono hb.size)
  clear h1
  go_wp2_with fail
  refine (line_any a1 a0 _).mono ?_
  rintro e w17 ⟨rfl, h1⟩
  have hb := hb.trans (h1.mono hb.size)
  clear h1
  rw [T5.out]
  go_wp2
  go_ret
  exact ⟨rfl, hb⟩

end Go.Proofs.Ytloncbjkipjepaa
