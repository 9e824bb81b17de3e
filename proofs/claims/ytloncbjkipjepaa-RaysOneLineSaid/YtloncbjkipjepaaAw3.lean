/- The walk of awake of law 3. -/
import Derived.Test.YtloncbjkipjepaaY2
import Derived.Test.YtloncbjkipjepaaY3
import Derived.Test.YtloncbjkipjepaaB3
namespace Go.Proofs.Ytloncbjkipjepaa
open Go Go.RowKit

theorem of_any (a b : Int) (w : World) :
    Calls Try.prog 46 #[.int .i64 a, .int .i64 b] w fun e w' => e = .returned (.int .u64 (u (putB (putB 0#64 a) b))) ∧ w = w' := by
  go_enter Try.func46, Try.ntmps46
  go_wp2_with fail
  refine (put_any 0#64 rfl a _).mono ?_
  rintro e w1 ⟨rfl, rfl⟩
  go_wp2_with fail
  refine (put_any (putB 0#64 a) rfl b _).mono ?_
  rintro e w1 ⟨rfl, rfl⟩
  go_wp2
  go_ret
  exact ⟨rfl, rfl⟩

set_option maxHeartbeats 1600000 in
theorem awake_any (w : World) :
    Calls Try.prog 23 #[] w fun e w' => e = .returned (.bool true) ∧ Below w.heap.size w w' := by
  go_enter Try.func23, Try.ntmps23
  have hb := Below.refl w.heap.size w
  go_wp2_with fail
  refine (knight_any 0 _).mono ?_
  rintro e w1 ⟨rfl, h1⟩
  have hb := hb.trans (h1.mono hb.size)
  clear h1
  rw [show knightB 0 = putB (putB 0#64 17) 10 by decide +kernel]
  go_wp2_with fail
  refine (of_any 17 10 _).mono ?_
  rintro e w2 ⟨rfl, rfl⟩
  go_wp2_with fail
  refine (king_any 63 _).mono ?_
  rintro e w3 ⟨rfl, h1⟩
  have hb := hb.trans (h1.mono hb.size)
  clear h1
  rw [show kingB 63 = putB (putB (putB 0#64 54) 55) 62 by decide +kernel]
  go_wp2_with fail
  refine (of_any 54 55 _).mono ?_
  rintro e w4 ⟨rfl, rfl⟩
  go_wp2_with fail
  refine (put_any (putB (putB 0#64 54) 55) rfl 62 _).mono ?_
  rintro e w5 ⟨rfl, rfl⟩
  go_wp2_with fail
  refine (pawn_any 0 8 _).mono ?_
  rintro e w6 ⟨rfl, h1⟩
  have hb := hb.trans (h1.mono hb.size)
  clear h1
  rw [show pawnB 0 8 = putB 0#64 17 by decide +kernel]
  go_wp2_with fail
  refine (put_any (0#64) rfl 17 _).mono ?_
  rintro e w7 ⟨rfl, rfl⟩
  go_wp2_with fail
  refine (pawn_any 1 28 _).mono ?_
  rintro e w8 ⟨rfl, h1⟩
  have hb := hb.trans (h1.mono hb.size)
  clear h1
  rw [show pawnB 1 28 = putB (putB 0#64 19) 21 by decide +kernel]
  go_wp2_with fail
  refine (of_any 19 21 _).mono ?_
  rintro e w9 ⟨rfl, rfl⟩
  go_wp2_with fail
  refine (pawn_any 0 63 _).mono ?_
  rintro e w10 ⟨rfl, h1⟩
  have hb := hb.trans (h1.mono hb.size)
  clear h1
  rw [show pawnB 0 63 = 0#64 by decide +kernel, u_zero]
  go_wp2_with fail
  refine (ray_any 0 1 _).mono ?_
  rintro e w11 ⟨rfl, h1⟩
  have hb := hb.trans (h1.mono hb.size)
  clear h1
  go_wp2_with fail
  refine (count_any (rayB 0 1) rfl _).mono ?_
  rintro e w12 ⟨rfl, rfl⟩
  rw [show cntB (rayB 0 1) = 7 by decide +kernel]
  go_wp2_with fail
  refine (ray_any 7 2 _).mono ?_
  rintro e w13 ⟨rfl, h1⟩
  have hb := hb.trans (h1.mono hb.size)
  clear h1
  rw [show rayB 7 2 = 0#64 by decide +kernel, u_zero]
  go_wp2_with fail
  refine (between_any 0 27 _).mono ?_
  rintro e w14 ⟨rfl, h1⟩
  have hb := hb.trans (h1.mono hb.size)
  clear h1
  rw [show betB 0 27 = putB (putB 0#64 9) 18 by decide +kernel]
  go_wp2_with fail
  refine (of_any 9 18 _).mono ?_
  rintro e w15 ⟨rfl, rfl⟩
  go_wp2_with fail
  refine (between_any 0 9 _).mono ?_
  rintro e w16 ⟨rfl, h1⟩
  have hb := hb.trans (h1.mono hb.size)
  clear h1
  rw [show betB 0 9 = 0#64 by decide +kernel, u_zero]
  go_wp2_with fail
  refine (between_any 0 17 _).mono ?_
  rintro e w17 ⟨rfl, h1⟩
  have hb := hb.trans (h1.mono hb.size)
  clear h1
  rw [show betB 0 17 = 0#64 by decide +kernel, u_zero]
  go_wp2_with fail
  refine (line_any 0 27 _).mono ?_
  rintro e w18 ⟨rfl, h1⟩
  have hb := hb.trans (h1.mono hb.size)
  clear h1
  go_wp2_with fail
  refine (count_any (lineB 0 27) rfl _).mono ?_
  rintro e w19 ⟨rfl, rfl⟩
  rw [show cntB (lineB 0 27) = 8 by decide +kernel]
  go_wp2_with fail
  refine (line_any 28 36 _).mono ?_
  rintro e w20 ⟨rfl, h1⟩
  have hb := hb.trans (h1.mono hb.size)
  clear h1
  rw [show lineB 28 36 = lineB 4 60 by decide +kernel]
  go_wp2_with fail
  refine (line_any 4 60 _).mono ?_
  rintro e w21 ⟨rfl, h1⟩
  have hb := hb.trans (h1.mono hb.size)
  clear h1
  go_wp2
  go_ret
  exact ⟨rfl, hb⟩

end Go.Proofs.Ytloncbjkipjepaa
