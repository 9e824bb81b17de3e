/- The walk of RaysParts. -/
import Derived.Test.YtloncbjkipjepaaAw3
import Derived.Test.YtloncbjkipjepaaY6
namespace Go.Proofs.Ytloncbjkipjepaa
open Go Go.RowKit

set_option maxHeartbeats 1600000 in
theorem raysParts_walk (a0 : Int) (a1 : Int) (_w0 : (Lit.int .i64 a0).wf = true) (_w1 : (Lit.int .i64 a1).wf = true) (w : World) :
    Calls Try.prog 7 #[.int .i64 a0, .int .i64 a1] w fun e w' => e = .returned (.bool true) ∧ Below w.heap.size w w' := by
  have L1 := hideIt (all_line a0 a1)
  have L2 := hideIt (all_knight a0)
  have hz := hideIt (show putB 0#64 a0 = oneB a0 by unfold putB; simp)
  go_enter Try.func7, Try.ntmps7
  have hb := Below.refl w.heap.size w
  go_wp2_with fail
  refine (awake_any _).mono ?_
  rintro e w1 ⟨rfl, h1⟩
  have hb := hb.trans (h1.mono hb.size)
  clear h1
  go_wp2
  go_loopw [5, 6, 7] (fun al fi i wr => ∃ k : Nat, k ≤ 8 ∧ i = .int .i64 k ∧ al = .int .u64 (u (allA a0 k)) ∧ fi = .int .u64 (u (kingA a0 k)) ∧ Below w.heap.size w wr) (fun _ _ i _ => 8 - (intOf i).toNat)
  case atStart => exact ⟨0, by omega, rfl, rfl, rfl, hb⟩
  case round =>
    obtain ⟨k, hk, rfl, rfl, rfl, hb⟩ := hrel
    by_cases hlt : k < 8
    · have A := all_apart a0 k hlt
      have R := ray_own a0 k hlt
      go_wp2_with fail
      refine (ray_any a0 k _).mono ?_
      rintro e w2 ⟨rfl, h1⟩
      have hb := hb.trans (h1.mono hb.size)
      clear h1
      go_wp2_with fail
      refine (put_any 0#64 rfl a0 _).mono ?_
      rintro e w3 ⟨rfl, rfl⟩
      rw [hz.out]
      go_wp2_with fail
      refine (shift_any (oneB a0) rfl k _).mono ?_
      rintro e w4 ⟨rfl, h1⟩
      have hb := hb.trans (h1.mono hb.size)
      clear h1
      go_wp2_with fail
      refine (shift_any (rayB a0 k) rfl k _).mono ?_
      rintro e w5 ⟨rfl, h1⟩
      have hb := hb.trans (h1.mono hb.size)
      clear h1
      go_wp2_with fail
      refine (put_any 0#64 rfl a0 _).mono ?_
      rintro e w6 ⟨rfl, rfl⟩
      rw [hz.out]
      go_wp2_with fail
      refine (shift_any (oneB a0) rfl k _).mono ?_
      rintro e w7 ⟨rfl, h1⟩
      have hb := hb.trans (h1.mono hb.size)
      clear h1
      go_wp2
      go_roundw
      case rel => exact ⟨k + 1, by omega, by go_num, rfl, rfl, hb⟩
      case measure => simp [intOf]; omega
    · obtain rfl : k = 8 := by omega
      go_wp2_with fail
      refine (king_any a0 _).mono ?_
      rintro e w8 ⟨rfl, h1⟩
      have hb := hb.trans (h1.mono hb.size)
      clear h1
      rw [show kingB a0 = kingA a0 8 from rfl]
      go_wp2_with fail
      refine (has_any (allA a0 8) rfl a1 _).mono ?_
      rintro e w9 ⟨rfl, rfl⟩
      rw [L1.out]
      cases hl : (lineB a0 a1 == 0#64) with
      | true =>
        have z : (u (lineB a0 a1) != 0) = false := by rw [bne, u_eq_zero, hl]; rfl
        clear hl
        go_wp2_with fail
        refine (line_any a0 a1 _).mono ?_
        rintro e w10 ⟨rfl, h1⟩
        have hb := hb.trans (h1.mono hb.size)
        clear h1
        go_wp2_with fail
        refine (knight_any a0 _).mono ?_
        rintro e w11 ⟨rfl, h1⟩
        have hb := hb.trans (h1.mono hb.size)
        clear h1
        have L3 := L2.out
        go_wp2
        go_ret
        exact ⟨rfl, hb⟩
      | false =>
        have z : (u (lineB a0 a1) != 0) = true := by rw [bne, u_eq_zero, hl]; rfl
        clear hl
        go_wp2_with fail
        refine (line_any a0 a1 _).mono ?_
        rintro e w10 ⟨rfl, h1⟩
        have hb := hb.trans (h1.mono hb.size)
        clear h1
        go_wp2_with fail
        refine (knight_any a0 _).mono ?_
        rintro e w11 ⟨rfl, h1⟩
        have hb := hb.trans (h1.mono hb.size)
        clear h1
        have L3 := L2.out
        go_wp2
        go_ret
        exact ⟨rfl, hb⟩

end Go.Proofs.Ytloncbjkipjepaa
