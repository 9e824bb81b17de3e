/- The walk of RaysOneLine. -/
import Derived.Test.YtloncbjkipjepaaAw3
import Derived.Test.YtloncbjkipjepaaY7
namespace Go.Proofs.Ytloncbjkipjepaa
open Go Go.RowKit

theorem dist_le (a b : Int) : distI a b ≤ 7 := by unfold distI; split <;> omega

set_option maxHeartbeats 1600000 in
theorem raysOneLine_no (a0 : Int) (a1 : Int) (a2 : Int) (h : lineB a0 a1 = 0#64) (w : World) :
    Calls Try.prog 9 #[.int .i64 a0, .int .i64 a1, .int .i64 a2] w fun e w' => e = .returned (.bool true) ∧ Below w.heap.size w w' := by
  have B := hideIt (pair_no h)
  have L := hideIt h
  clear h
  go_enter Try.func9, Try.ntmps9
  have hb := Below.refl w.heap.size w
  go_wp2_with fail
  refine (awake_any _).mono ?_
  rintro e w1 ⟨rfl, h1⟩
  have hb := hb.trans (h1.mono hb.size)
  clear h1
  go_wp2_with fail
  refine (line_any a0 a1 _).mono ?_
  rintro e w2 ⟨rfl, h1⟩
  have hb := hb.trans (h1.mono hb.size)
  clear h1
  rw [L.out, u_zero]
  go_wp2_with fail
  refine (between_any a0 a1 _).mono ?_
  rintro e w3 ⟨rfl, h1⟩
  have hb := hb.trans (h1.mono hb.size)
  clear h1
  rw [B.out, u_zero]
  go_wp2
  go_ret
  exact ⟨rfl, hb⟩

set_option maxHeartbeats 1600000 in
theorem raysOneLine_off (a0 : Int) (a1 : Int) (a2 : Int) (h : ¬ (lineB a0 a1 = 0#64)) (hc : hasB (lineB a0 a1) a2 = false) (w : World) :
    Calls Try.prog 9 #[.int .i64 a0, .int .i64 a1, .int .i64 a2] w fun e w' => e = .returned (.bool true) ∧ Below w.heap.size w w' := by
  obtain ⟨p1, p2, p3, p4, p5, p6⟩ := pair_yes h
  have z : (u (lineB a0 a1) == 0) = false := by rw [u_eq_zero, beq_eq_false_iff_ne]; exact h
  have P1 := hideIt p1
  have P2 := hideIt p2
  have P4 := hideIt p4
  have P5 := hideIt p5
  have P6 := hideIt p6
  have d7 := dist_le a0 a1
  have d1 : 1 ≤ distI a0 a1 := by omega
  clear p1 p2 p4 p5 p6
  have C := hideIt hc
  clear h hc
  go_enter Try.func9, Try.ntmps9
  have hb := Below.refl w.heap.size w
  go_wp2_with fail
  refine (awake_any _).mono ?_
  rintro e w1 ⟨rfl, h1⟩
  have hb := hb.trans (h1.mono hb.size)
  clear h1
  go_wp2_with fail
  refine (line_any a0 a1 _).mono ?_
  rintro e w2 ⟨rfl, h1⟩
  have hb := hb.trans (h1.mono hb.size)
  clear h1
  go_wp2_with fail
  refine (between_any a0 a1 _).mono ?_
  rintro e w3 ⟨rfl, h1⟩
  have hb := hb.trans (h1.mono hb.size)
  clear h1
  go_wp2_with fail
  refine (has_any (lineB a0 a1) rfl a0 _).mono ?_
  rintro e w4 ⟨rfl, rfl⟩
  rw [P1.out]
  go_wp2_with fail
  refine (has_any (lineB a0 a1) rfl a1 _).mono ?_
  rintro e w5 ⟨rfl, rfl⟩
  rw [P2.out]
  go_wp2_with fail
  refine (has_any (betB a0 a1) rfl a0 _).mono ?_
  rintro e w6 ⟨rfl, rfl⟩
  rw [P4.out]
  go_wp2_with fail
  refine (has_any (betB a0 a1) rfl a1 _).mono ?_
  rintro e w7 ⟨rfl, rfl⟩
  rw [P5.out]
  go_wp2_with fail
  refine (count_any (betB a0 a1) rfl _).mono ?_
  rintro e w8 ⟨rfl, rfl⟩
  rw [P6.out]
  go_wp2_with fail
  refine (sDistance_any a0 a1 _).mono ?_
  rintro e w9 ⟨rfl, h1⟩
  have hb := hb.trans (h1.mono hb.size)
  clear h1
  go_wp2_with fail
  refine (has_any (lineB a0 a1) rfl a2 _).mono ?_
  rintro e w10 ⟨rfl, rfl⟩
  rw [C.out]
  go_wp2
  go_ret
  exact ⟨rfl, hb⟩

set_option maxHeartbeats 1600000 in
theorem raysOneLine_same (a0 : Int) (a1 : Int) (a2 : Int) (h : ¬ (lineB a0 a1 = 0#64)) (hc : hasB (lineB a0 a1) a2 = true) (he : (a2 == a0) = true) (w : World) :
    Calls Try.prog 9 #[.int .i64 a0, .int .i64 a1, .int .i64 a2] w fun e w' => e = .returned (.bool true) ∧ Below w.heap.size w w' := by
  obtain ⟨p1, p2, p3, p4, p5, p6⟩ := pair_yes h
  have z : (u (lineB a0 a1) == 0) = false := by rw [u_eq_zero, beq_eq_false_iff_ne]; exact h
  have P1 := hideIt p1
  have P2 := hideIt p2
  have P4 := hideIt p4
  have P5 := hideIt p5
  have P6 := hideIt p6
  have d7 := dist_le a0 a1
  have d1 : 1 ≤ distI a0 a1 := by omega
  clear p1 p2 p4 p5 p6
  have C := hideIt hc
  clear h hc
  go_enter Try.func9, Try.ntmps9
  have hb := Below.refl w.heap.size w
  go_wp2_with fail
  refine (awake_any _).mono ?_
  rintro e w1 ⟨rfl, h1⟩
  have hb := hb.trans (h1.mono hb.size)
  clear h1
  go_wp2_with fail
  refine (line_any a0 a1 _).mono ?_
  rintro e w2 ⟨rfl, h1⟩
  have hb := hb.trans (h1.mono hb.size)
  clear h1
  go_wp2_with fail
  refine (between_any a0 a1 _).mono ?_
  rintro e w3 ⟨rfl, h1⟩
  have hb := hb.trans (h1.mono hb.size)
  clear h1
  go_wp2_with fail
  refine (has_any (lineB a0 a1) rfl a0 _).mono ?_
  rintro e w4 ⟨rfl, rfl⟩
  rw [P1.out]
  go_wp2_with fail
  refine (has_any (lineB a0 a1) rfl a1 _).mono ?_
  rintro e w5 ⟨rfl, rfl⟩
  rw [P2.out]
  go_wp2_with fail
  refine (has_any (betB a0 a1) rfl a0 _).mono ?_
  rintro e w6 ⟨rfl, rfl⟩
  rw [P4.out]
  go_wp2_with fail
  refine (has_any (betB a0 a1) rfl a1 _).mono ?_
  rintro e w7 ⟨rfl, rfl⟩
  rw [P5.out]
  go_wp2_with fail
  refine (count_any (betB a0 a1) rfl _).mono ?_
  rintro e w8 ⟨rfl, rfl⟩
  rw [P6.out]
  go_wp2_with fail
  refine (sDistance_any a0 a1 _).mono ?_
  rintro e w9 ⟨rfl, h1⟩
  have hb := hb.trans (h1.mono hb.size)
  clear h1
  go_wp2_with fail
  refine (has_any (lineB a0 a1) rfl a2 _).mono ?_
  rintro e w10 ⟨rfl, rfl⟩
  rw [C.out]
  go_wp2
  go_ret
  exact ⟨rfl, hb⟩

set_option maxHeartbeats 1600000 in
theorem raysOneLine_far (a0 : Int) (a1 : Int) (a2 : Int) (h : ¬ (lineB a0 a1 = 0#64)) (hc : hasB (lineB a0 a1) a2 = true) (he : (a2 == a0) = false) (hn : hasB (betB a0 a1) a2 = false) (w : World) :
    Calls Try.prog 9 #[.int .i64 a0, .int .i64 a1, .int .i64 a2] w fun e w' => e = .returned (.bool true) ∧ Below w.heap.size w w' := by
  obtain ⟨p1, p2, p3, p4, p5, p6⟩ := pair_yes h
  have z : (u (lineB a0 a1) == 0) = false := by rw [u_eq_zero, beq_eq_false_iff_ne]; exact h
  have P1 := hideIt p1
  have P2 := hideIt p2
  have P4 := hideIt p4
  have P5 := hideIt p5
  have P6 := hideIt p6
  have d7 := dist_le a0 a1
  have d1 : 1 ≤ distI a0 a1 := by omega
  clear p1 p2 p4 p5 p6
  have T := hideIt (line_third a0 a1 a2 h hc (by rw [beq_eq_false_iff_ne] at he; exact he))
  have C := hideIt hc
  have N := hideIt hn
  clear h hc hn
  go_enter Try.func9, Try.ntmps9
  have hb := Below.refl w.heap.size w
  go_wp2_with fail
  refine (awake_any _).mono ?_
  rintro e w1 ⟨rfl, h1⟩
  have hb := hb.trans (h1.mono hb.size)
  clear h1
  go_wp2_with fail
  refine (line_any a0 a1 _).mono ?_
  rintro e w2 ⟨rfl, h1⟩
  have hb := hb.trans (h1.mono hb.size)
  clear h1
  go_wp2_with fail
  refine (between_any a0 a1 _).mono ?_
  rintro e w3 ⟨rfl, h1⟩
  have hb := hb.trans (h1.mono hb.size)
  clear h1
  go_wp2_with fail
  refine (has_any (lineB a0 a1) rfl a0 _).mono ?_
  rintro e w4 ⟨rfl, rfl⟩
  rw [P1.out]
  go_wp2_with fail
  refine (has_any (lineB a0 a1) rfl a1 _).mono ?_
  rintro e w5 ⟨rfl, rfl⟩
  rw [P2.out]
  go_wp2_with fail
  refine (has_any (betB a0 a1) rfl a0 _).mono ?_
  rintro e w6 ⟨rfl, rfl⟩
  rw [P4.out]
  go_wp2_with fail
  refine (has_any (betB a0 a1) rfl a1 _).mono ?_
  rintro e w7 ⟨rfl, rfl⟩
  rw [P5.out]
  go_wp2_with fail
  refine (count_any (betB a0 a1) rfl _).mono ?_
  rintro e w8 ⟨rfl, rfl⟩
  rw [P6.out]
  go_wp2_with fail
  refine (sDistance_any a0 a1 _).mono ?_
  rintro e w9 ⟨rfl, h1⟩
  have hb := hb.trans (h1.mono hb.size)
  clear h1
  go_wp2_with fail
  refine (has_any (lineB a0 a1) rfl a2 _).mono ?_
  rintro e w10 ⟨rfl, rfl⟩
  rw [C.out]
  go_wp2_with fail
  refine (line_any a0 a2 _).mono ?_
  rintro e w11 ⟨rfl, h1⟩
  have hb := hb.trans (h1.mono hb.size)
  clear h1
  rw [T.out]
  go_wp2_with fail
  refine (has_any (betB a0 a1) rfl a2 _).mono ?_
  rintro e w12 ⟨rfl, rfl⟩
  rw [N.out]
  go_wp2
  go_ret
  exact ⟨rfl, hb⟩

set_option maxHeartbeats 1600000 in
theorem raysOneLine_mid (a0 : Int) (a1 : Int) (a2 : Int) (h : ¬ (lineB a0 a1 = 0#64)) (hc : hasB (lineB a0 a1) a2 = true) (he : (a2 == a0) = false) (hn : hasB (betB a0 a1) a2 = true) (w : World) :
    Calls Try.prog 9 #[.int .i64 a0, .int .i64 a1, .int .i64 a2] w fun e w' => e = .returned (.bool true) ∧ Below w.heap.size w w' := by
  obtain ⟨p1, p2, p3, p4, p5, p6⟩ := pair_yes h
  have z : (u (lineB a0 a1) == 0) = false := by rw [u_eq_zero, beq_eq_false_iff_ne]; exact h
  have P1 := hideIt p1
  have P2 := hideIt p2
  have P4 := hideIt p4
  have P5 := hideIt p5
  have P6 := hideIt p6
  have d7 := dist_le a0 a1
  have d1 : 1 ≤ distI a0 a1 := by omega
  clear p1 p2 p4 p5 p6
  have T := hideIt (line_third a0 a1 a2 h hc (by rw [beq_eq_false_iff_ne] at he; exact he))
  have C := hideIt hc
  have N := hideIt hn
  have Q := bet_third a0 a1 a2 hn
  clear h hc hn
  go_enter Try.func9, Try.ntmps9
  have hb := Below.refl w.heap.size w
  go_wp2_with fail
  refine (awake_any _).mono ?_
  rintro e w1 ⟨rfl, h1⟩
  have hb := hb.trans (h1.mono hb.size)
  clear h1
  go_wp2_with fail
  refine (line_any a0 a1 _).mono ?_
  rintro e w2 ⟨rfl, h1⟩
  have hb := hb.trans (h1.mono hb.size)
  clear h1
  go_wp2_with fail
  refine (between_any a0 a1 _).mono ?_
  rintro e w3 ⟨rfl, h1⟩
  have hb := hb.trans (h1.mono hb.size)
  clear h1
  go_wp2_with fail
  refine (has_any (lineB a0 a1) rfl a0 _).mono ?_
  rintro e w4 ⟨rfl, rfl⟩
  rw [P1.out]
  go_wp2_with fail
  refine (has_any (lineB a0 a1) rfl a1 _).mono ?_
  rintro e w5 ⟨rfl, rfl⟩
  rw [P2.out]
  go_wp2_with fail
  refine (has_any (betB a0 a1) rfl a0 _).mono ?_
  rintro e w6 ⟨rfl, rfl⟩
  rw [P4.out]
  go_wp2_with fail
  refine (has_any (betB a0 a1) rfl a1 _).mono ?_
  rintro e w7 ⟨rfl, rfl⟩
  rw [P5.out]
  go_wp2_with fail
  refine (count_any (betB a0 a1) rfl _).mono ?_
  rintro e w8 ⟨rfl, rfl⟩
  rw [P6.out]
  go_wp2_with fail
  refine (sDistance_any a0 a1 _).mono ?_
  rintro e w9 ⟨rfl, h1⟩
  have hb := hb.trans (h1.mono hb.size)
  clear h1
  go_wp2_with fail
  refine (has_any (lineB a0 a1) rfl a2 _).mono ?_
  rintro e w10 ⟨rfl, rfl⟩
  rw [C.out]
  go_wp2_with fail
  refine (line_any a0 a2 _).mono ?_
  rintro e w11 ⟨rfl, h1⟩
  have hb := hb.trans (h1.mono hb.size)
  clear h1
  rw [T.out]
  go_wp2_with fail
  refine (has_any (betB a0 a1) rfl a2 _).mono ?_
  rintro e w12 ⟨rfl, rfl⟩
  rw [N.out]
  go_wp2_with fail
  refine (between_any a0 a2 _).mono ?_
  rintro e w13 ⟨rfl, h1⟩
  have hb := hb.trans (h1.mono hb.size)
  clear h1
  go_wp2_with fail
  refine (between_any a2 a1 _).mono ?_
  rintro e w14 ⟨rfl, h1⟩
  have hb := hb.trans (h1.mono hb.size)
  clear h1
  go_wp2_with fail
  refine (clear_any (betB a0 a1) rfl a2 _).mono ?_
  rintro e w15 ⟨rfl, rfl⟩
  go_wp2
  go_ret
  exact ⟨rfl, hb⟩

theorem raysOneLine_walk (a0 : Int) (a1 : Int) (a2 : Int) (_w0 : (Lit.int .i64 a0).wf = true) (_w1 : (Lit.int .i64 a1).wf = true) (_w2 : (Lit.int .i64 a2).wf = true) (w : World) :
    Calls Try.prog 9 #[.int .i64 a0, .int .i64 a1, .int .i64 a2] w fun e w' => e = .returned (.bool true) ∧ Below w.heap.size w w' := by
  by_cases h : lineB a0 a1 = 0#64
  · exact raysOneLine_no a0 a1 a2 h w
  · cases hc : hasB (lineB a0 a1) a2 with
    | false => exact raysOneLine_off a0 a1 a2 h hc w
    | true =>
      cases he : (a2 == a0) with
      | true => exact raysOneLine_same a0 a1 a2 h hc he w
      | false =>
        cases hn : hasB (betB a0 a1) a2 with
        | false => exact raysOneLine_far a0 a1 a2 h hc he hn w
        | true => exact raysOneLine_mid a0 a1 a2 h hc he hn w

end Go.Proofs.Ytloncbjkipjepaa
