/- The walk of SquaresWay. -/
import Derived.Test.YtonlfgldhnkcgaaAw2
import Derived.Test.YtonlfgldhnkcgaaS3
namespace Go.Proofs.Ytonlfgldhnkcgaa
open Go Go.RowKit

set_option maxHeartbeats 1600000 in
theorem squaresWay_walk (a0 : Int) (a1 : Int) (a2 : Int) (_w0 : (Lit.int .i64 a0).wf = true) (_w1 : (Lit.int .i64 a1).wf = true) (_w2 : (Lit.int .i64 a2).wf = true) (w : World) :
    Calls Try.prog 8 #[.int .i64 a0, .int .i64 a1, .int .i64 a2] w fun e w' => e = .returned (.bool true) ∧ Below w.heap.size w w' := by
  have C1 := hideIt (distI_comm a0 a1)
  have C2 := hideIt (distI_flip a0 a1)
  have C3 := (distI_le a0 a1).2
  have C4 := hideIt (distI_neg a0 a1)
  have C5 := hideIt (distI_zero a0 a1)
  have C6 := hideIt (distI_way a0 a1 a2)
  by_cases h : distI a0 a1 < 0
  · rcases distI_neg a0 a1 h with k | k
    · have K := hideIt k
      clear k
      go_enter Try.func8, Try.ntmps8
      have hb := Below.refl w.heap.size w
      go_wp2_with fail
      refine (awake_any _).mono ?_
      rintro e w1 ⟨rfl, h1⟩
      have hb := hb.trans (h1.mono hb.size)
      clear h1
      go_wp2_with fail
      refine (sDistance_any a0 a1 _).mono ?_
      rintro e w2 ⟨rfl, h1⟩
      have hb := hb.trans (h1.mono hb.size)
      clear h1
      go_wp2_with fail
      refine (sDistance_any a1 a2 _).mono ?_
      rintro e w3 ⟨rfl, h1⟩
      have hb := hb.trans (h1.mono hb.size)
      clear h1
      go_wp2_with fail
      refine (sDistance_any a0 a2 _).mono ?_
      rintro e w4 ⟨rfl, h1⟩
      have hb := hb.trans (h1.mono hb.size)
      clear h1
      go_wp2_with fail
      refine (sDistance_any a1 a0 _).mono ?_
      rintro e w5 ⟨rfl, h1⟩
      have hb := hb.trans (h1.mono hb.size)
      clear h1
      rw [C1.out]
      go_wp2_with fail
      refine (sFlip_any a0 _).mono ?_
      rintro e w6 ⟨rfl, h1⟩
      have hb := hb.trans (h1.mono hb.size)
      clear h1
      go_wp2_with fail
      refine (sFlip_any a1 _).mono ?_
      rintro e w7 ⟨rfl, h1⟩
      have hb := hb.trans (h1.mono hb.size)
      clear h1
      go_wp2_with fail
      refine (sDistance_any (flipS a0) (flipS a1) _).mono ?_
      rintro e w8 ⟨rfl, h1⟩
      have hb := hb.trans (h1.mono hb.size)
      clear h1
      rw [C2.out]
      go_wp2_with fail
      refine (sText_any a0 _).mono ?_
      rintro e w9 ⟨rfl, h1⟩
      have hb := hb.trans (h1.mono hb.size)
      clear h1
      rw [K.out]
      go_wp2
      go_ret
      exact ⟨rfl, hb⟩
    · have K := hideIt k
      clear k
      by_cases hl : textL a0 = []
      · have L := hideIt hl
        clear hl
        go_enter Try.func8, Try.ntmps8
        have hb := Below.refl w.heap.size w
        go_wp2_with fail
        refine (awake_any _).mono ?_
        rintro e w1 ⟨rfl, h1⟩
        have hb := hb.trans (h1.mono hb.size)
        clear h1
        go_wp2_with fail
        refine (sDistance_any a0 a1 _).mono ?_
        rintro e w2 ⟨rfl, h1⟩
        have hb := hb.trans (h1.mono hb.size)
        clear h1
        go_wp2_with fail
        refine (sDistance_any a1 a2 _).mono ?_
        rintro e w3 ⟨rfl, h1⟩
        have hb := hb.trans (h1.mono hb.size)
        clear h1
        go_wp2_with fail
        refine (sDistance_any a0 a2 _).mono ?_
        rintro e w4 ⟨rfl, h1⟩
        have hb := hb.trans (h1.mono hb.size)
        clear h1
        go_wp2_with fail
        refine (sDistance_any a1 a0 _).mono ?_
        rintro e w5 ⟨rfl, h1⟩
        have hb := hb.trans (h1.mono hb.size)
        clear h1
        rw [C1.out]
        go_wp2_with fail
        refine (sFlip_any a0 _).mono ?_
        rintro e w6 ⟨rfl, h1⟩
        have hb := hb.trans (h1.mono hb.size)
        clear h1
        go_wp2_with fail
        refine (sFlip_any a1 _).mono ?_
        rintro e w7 ⟨rfl, h1⟩
        have hb := hb.trans (h1.mono hb.size)
        clear h1
        go_wp2_with fail
        refine (sDistance_any (flipS a0) (flipS a1) _).mono ?_
        rintro e w8 ⟨rfl, h1⟩
        have hb := hb.trans (h1.mono hb.size)
        clear h1
        rw [C2.out]
        go_wp2_with fail
        refine (sText_any a0 _).mono ?_
        rintro e w9 ⟨rfl, h1⟩
        have hb := hb.trans (h1.mono hb.size)
        clear h1
        rw [L.out]
        go_wp2
        go_ret
        exact ⟨rfl, hb⟩
      · have L : (textL a0 == []) = false := by rw [beq_eq_false_iff_ne]; exact hl
        have L' : (textL a0).isEmpty = false := by rw [List.isEmpty_eq_false_iff]; exact hl
        clear hl
        go_enter Try.func8, Try.ntmps8
        have hb := Below.refl w.heap.size w
        go_wp2_with fail
        refine (awake_any _).mono ?_
        rintro e w1 ⟨rfl, h1⟩
        have hb := hb.trans (h1.mono hb.size)
        clear h1
        go_wp2_with fail
        refine (sDistance_any a0 a1 _).mono ?_
        rintro e w2 ⟨rfl, h1⟩
        have hb := hb.trans (h1.mono hb.size)
        clear h1
        go_wp2_with fail
        refine (sDistance_any a1 a2 _).mono ?_
        rintro e w3 ⟨rfl, h1⟩
        have hb := hb.trans (h1.mono hb.size)
        clear h1
        go_wp2_with fail
        refine (sDistance_any a0 a2 _).mono ?_
        rintro e w4 ⟨rfl, h1⟩
        have hb := hb.trans (h1.mono hb.size)
        clear h1
        go_wp2_with fail
        refine (sDistance_any a1 a0 _).mono ?_
        rintro e w5 ⟨rfl, h1⟩
        have hb := hb.trans (h1.mono hb.size)
        clear h1
        rw [C1.out]
        go_wp2_with fail
        refine (sFlip_any a0 _).mono ?_
        rintro e w6 ⟨rfl, h1⟩
        have hb := hb.trans (h1.mono hb.size)
        clear h1
        go_wp2_with fail
        refine (sFlip_any a1 _).mono ?_
        rintro e w7 ⟨rfl, h1⟩
        have hb := hb.trans (h1.mono hb.size)
        clear h1
        go_wp2_with fail
        refine (sDistance_any (flipS a0) (flipS a1) _).mono ?_
        rintro e w8 ⟨rfl, h1⟩
        have hb := hb.trans (h1.mono hb.size)
        clear h1
        rw [C2.out]
        go_wp2_with fail
        refine (sText_any a0 _).mono ?_
        rintro e w9 ⟨rfl, h1⟩
        have hb := hb.trans (h1.mono hb.size)
        clear h1
        go_wp2_with fail
        refine (sText_any a1 _).mono ?_
        rintro e w10 ⟨rfl, h1⟩
        have hb := hb.trans (h1.mono hb.size)
        clear h1
        rw [K.out]
        go_wp2
        go_ret
        exact ⟨rfl, hb⟩
  · have hz := distI_zero a0 a1 (by omega)
    have hw := distI_way a0 a1 a2 (by omega)
    have b1 := distI_le a1 a2
    have E : (distI a0 a1 == 0) = (a0 == a1) := by
      rw [Bool.eq_iff_iff, beq_iff_eq, beq_iff_eq]; exact hz
    clear hz
    cases hq : (a0 == a1)
    all_goals
      rw [hq] at E
      by_cases k : distI a1 a2 < 0
      · go_enter Try.func8, Try.ntmps8
        have hb := Below.refl w.heap.size w
        go_wp2_with fail
        refine (awake_any _).mono ?_
        rintro e w1 ⟨rfl, h1⟩
        have hb := hb.trans (h1.mono hb.size)
        clear h1
        go_wp2_with fail
        refine (sDistance_any a0 a1 _).mono ?_
        rintro e w2 ⟨rfl, h1⟩
        have hb := hb.trans (h1.mono hb.size)
        clear h1
        go_wp2_with fail
        refine (sDistance_any a1 a2 _).mono ?_
        rintro e w3 ⟨rfl, h1⟩
        have hb := hb.trans (h1.mono hb.size)
        clear h1
        go_wp2_with fail
        refine (sDistance_any a0 a2 _).mono ?_
        rintro e w4 ⟨rfl, h1⟩
        have hb := hb.trans (h1.mono hb.size)
        clear h1
        go_wp2_with fail
        refine (sDistance_any a1 a0 _).mono ?_
        rintro e w5 ⟨rfl, h1⟩
        have hb := hb.trans (h1.mono hb.size)
        clear h1
        rw [C1.out]
        go_wp2_with fail
        refine (sFlip_any a0 _).mono ?_
        rintro e w6 ⟨rfl, h1⟩
        have hb := hb.trans (h1.mono hb.size)
        clear h1
        go_wp2_with fail
        refine (sFlip_any a1 _).mono ?_
        rintro e w7 ⟨rfl, h1⟩
        have hb := hb.trans (h1.mono hb.size)
        clear h1
        go_wp2_with fail
        refine (sDistance_any (flipS a0) (flipS a1) _).mono ?_
        rintro e w8 ⟨rfl, h1⟩
        have hb := hb.trans (h1.mono hb.size)
        clear h1
        rw [C2.out]
        go_wp2
        go_ret
        exact ⟨rfl, hb⟩
      · have k2 : distI a0 a2 ≤ distI a0 a1 + distI a1 a2 := by omega
        have k3 := (distI_le a0 a2).1
        clear hw
        go_enter Try.func8, Try.ntmps8
        have hb := Below.refl w.heap.size w
        go_wp2_with fail
        refine (awake_any _).mono ?_
        rintro e w1 ⟨rfl, h1⟩
        have hb := hb.trans (h1.mono hb.size)
        clear h1
        go_wp2_with fail
        refine (sDistance_any a0 a1 _).mono ?_
        rintro e w2 ⟨rfl, h1⟩
        have hb := hb.trans (h1.mono hb.size)
        clear h1
        go_wp2_with fail
        refine (sDistance_any a1 a2 _).mono ?_
        rintro e w3 ⟨rfl, h1⟩
        have hb := hb.trans (h1.mono hb.size)
        clear h1
        go_wp2_with fail
        refine (sDistance_any a0 a2 _).mono ?_
        rintro e w4 ⟨rfl, h1⟩
        have hb := hb.trans (h1.mono hb.size)
        clear h1
        go_wp2_with fail
        refine (sDistance_any a1 a0 _).mono ?_
        rintro e w5 ⟨rfl, h1⟩
        have hb := hb.trans (h1.mono hb.size)
        clear h1
        rw [C1.out]
        go_wp2_with fail
        refine (sFlip_any a0 _).mono ?_
        rintro e w6 ⟨rfl, h1⟩
        have hb := hb.trans (h1.mono hb.size)
        clear h1
        go_wp2_with fail
        refine (sFlip_any a1 _).mono ?_
        rintro e w7 ⟨rfl, h1⟩
        have hb := hb.trans (h1.mono hb.size)
        clear h1
        go_wp2_with fail
        refine (sDistance_any (flipS a0) (flipS a1) _).mono ?_
        rintro e w8 ⟨rfl, h1⟩
        have hb := hb.trans (h1.mono hb.size)
        clear h1
        rw [C2.out]
        go_wp2
        go_ret
        exact ⟨rfl, hb⟩

end Go.Proofs.Ytonlfgldhnkcgaa
