/- The walk of RaysFlipped. -/
import Derived.Test.YtloncbjkipjepaaAw3
import Derived.Test.YtloncbjkipjepaaY6
import Derived.IntWalk
namespace Go.Proofs.Ytloncbjkipjepaa
open Go Go.RowKit

theorem dirOf (a : Int) : ∃ d, wrap64 ((IntKind.u64.wrap a).tmod 8) = d ∧ 0 ≤ d ∧ d < 8 := by
  refine ⟨_, rfl, ?_⟩
  have h : 0 ≤ IntKind.u64.wrap a := by rw [IntKind.wrap_u64]; omega
  rw [Int.tmod_eq_emod_of_nonneg h]
  have e : wrap64 (IntKind.u64.wrap a % 8) = IntKind.u64.wrap a % 8 := IntWalk.wrap64_in _ (by omega)
  rw [e]
  omega

set_option maxHeartbeats 1600000 in
theorem raysFlipped_walk (a0 : Int) (a1 : Int) (a2 : Int) (_w0 : (Lit.int .i64 a0).wf = true) (_w1 : (Lit.int .i64 a1).wf = true) (_w2 : (Lit.int .i64 a2).wf = true) (w : World) :
    Calls Try.prog 10 #[.int .i64 a0, .int .i64 a1, .int .i64 a2] w fun e w' => e = .returned (.bool true) ∧ Below w.heap.size w w' := by
  obtain ⟨d, hd, d0, d1⟩ := dirOf a2
  have F1 := hideIt (king_flip a0)
  have F2 := hideIt (knight_flip a0)
  have F3 := hideIt (pawn_flip a0)
  have F4 := hideIt (ray_flip a0 d d0 d1)
  have F5 := hideIt (bet_flip a0 a1)
  have F6 := hideIt (line_flip a0 a1)
  go_enter Try.func10, Try.ntmps10
  have hb := Below.refl w.heap.size w
  go_wp2_with fail
  refine (awake_any _).mono ?_
  rintro e w1 ⟨rfl, h1⟩
  have hb := hb.trans (h1.mono hb.size)
  clear h1
  go_wp2_with fail
  refine (sFlip_any a0 _).mono ?_
  rintro e w2 ⟨rfl, h1⟩
  have hb := hb.trans (h1.mono hb.size)
  clear h1
  go_wp2_with fail
  refine (sFlip_any a1 _).mono ?_
  rintro e w3 ⟨rfl, h1⟩
  have hb := hb.trans (h1.mono hb.size)
  clear h1
  go_wp2_with fail
  refine (king_any a0 _).mono ?_
  rintro e w4 ⟨rfl, h1⟩
  have hb := hb.trans (h1.mono hb.size)
  clear h1
  go_wp2_with fail
  refine (flip_any (kingB a0) rfl _).mono ?_
  rintro e w5 ⟨rfl, rfl⟩
  rw [F1.out]
  go_wp2_with fail
  refine (king_any (flipS a0) _).mono ?_
  rintro e w6 ⟨rfl, h1⟩
  have hb := hb.trans (h1.mono hb.size)
  clear h1
  go_wp2_with fail
  refine (knight_any a0 _).mono ?_
  rintro e w7 ⟨rfl, h1⟩
  have hb := hb.trans (h1.mono hb.size)
  clear h1
  go_wp2_with fail
  refine (flip_any (knightB a0) rfl _).mono ?_
  rintro e w8 ⟨rfl, rfl⟩
  rw [F2.out]
  go_wp2_with fail
  refine (knight_any (flipS a0) _).mono ?_
  rintro e w9 ⟨rfl, h1⟩
  have hb := hb.trans (h1.mono hb.size)
  clear h1
  go_wp2_with fail
  refine (pawn_any 0 a0 _).mono ?_
  rintro e w10 ⟨rfl, h1⟩
  have hb := hb.trans (h1.mono hb.size)
  clear h1
  go_wp2_with fail
  refine (flip_any (pawnB 0 a0) rfl _).mono ?_
  rintro e w11 ⟨rfl, rfl⟩
  rw [F3.out]
  go_wp2_with fail
  refine (pawn_any 1 (flipS a0) _).mono ?_
  rintro e w12 ⟨rfl, h1⟩
  have hb := hb.trans (h1.mono hb.size)
  clear h1
  go_wp2_with fail
  refine (ray_any a0 d _).mono ?_
  rintro e w13 ⟨rfl, h1⟩
  have hb := hb.trans (h1.mono hb.size)
  clear h1
  go_wp2_with fail
  refine (flip_any (rayB a0 d) rfl _).mono ?_
  rintro e w14 ⟨rfl, rfl⟩
  rw [F4.out]
  go_wp2_with fail
  refine (ray_any (flipS a0) _ _).mono ?_
  rintro e w15 ⟨rfl, h1⟩
  have hb := hb.trans (h1.mono hb.size)
  clear h1
  go_wp2_with fail
  refine (between_any a0 a1 _).mono ?_
  rintro e w16 ⟨rfl, h1⟩
  have hb := hb.trans (h1.mono hb.size)
  clear h1
  go_wp2_with fail
  refine (flip_any (betB a0 a1) rfl _).mono ?_
  rintro e w17 ⟨rfl, rfl⟩
  rw [F5.out]
  go_wp2_with fail
  refine (between_any (flipS a0) (flipS a1) _).mono ?_
  rintro e w18 ⟨rfl, h1⟩
  have hb := hb.trans (h1.mono hb.size)
  clear h1
  go_wp2_with fail
  refine (line_any a0 a1 _).mono ?_
  rintro e w19 ⟨rfl, h1⟩
  have hb := hb.trans (h1.mono hb.size)
  clear h1
  go_wp2_with fail
  refine (flip_any (lineB a0 a1) rfl _).mono ?_
  rintro e w20 ⟨rfl, rfl⟩
  rw [F6.out]
  go_wp2_with fail
  refine (line_any (flipS a0) (flipS a1) _).mono ?_
  rintro e w21 ⟨rfl, h1⟩
  have hb := hb.trans (h1.mono hb.size)
  clear h1
  go_wp2
  go_ret
  exact ⟨rfl, hb⟩

end Go.Proofs.Ytloncbjkipjepaa
