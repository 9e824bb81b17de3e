/- The walk of SquaresSteps. -/
import Derived.Test.YtonlfgldhnkcgaaAw2
import Derived.Test.YtonlfgldhnkcgaaS3
namespace Go.Proofs.Ytonlfgldhnkcgaa
open Go Go.RowKit

set_option maxHeartbeats 1600000 in
theorem squaresSteps_walk (a0 : Int) (a1 : Int) (a2 : Int) (_w0 : (Lit.int .i64 a0).wf = true) (_w1 : (Lit.int .i64 a1).wf = true) (_w2 : (Lit.int .i64 a2).wf = true) (w : World) :
    Calls Try.prog 9 #[.int .i64 a0, .int .i64 a1, .int .i64 a2] w fun e w' => e = .returned (.bool true) ∧ Below w.heap.size w w' := by
  have hc : (a0 < 0) ∨ (0 ≤ a0 ∧ 63 < a0) ∨ (0 ≤ a0 ∧ a0 ≤ 63 ∧ a1 < -1) ∨ (0 ≤ a0 ∧ a0 ≤ 63 ∧ -1 ≤ a1 ∧ 1 < a1) ∨ (0 ≤ a0 ∧ a0 ≤ 63 ∧ -1 ≤ a1 ∧ a1 ≤ 1 ∧ a2 < -1) ∨ (0 ≤ a0 ∧ a0 ≤ 63 ∧ -1 ≤ a1 ∧ a1 ≤ 1 ∧ -1 ≤ a2 ∧ 1 < a2) ∨ (0 ≤ a0 ∧ a0 ≤ 63 ∧ -1 ≤ a1 ∧ a1 ≤ 1 ∧ -1 ≤ a2 ∧ a2 ≤ 1) := by omega
  rcases hc with h1 | ⟨h1, h2⟩ | ⟨h1, h2, h3⟩ | ⟨h1, h2, h3, h4⟩ | ⟨h1, h2, h3, h4, h5⟩ | ⟨h1, h2, h3, h4, h5, h6⟩ | ⟨h1, h2, h3, h4, h5, h6⟩
  · go_enter Try.func9, Try.ntmps9
    have hb := Below.refl w.heap.size w
    go_wp2_with fail
    refine (awake_any _).mono ?_
    rintro e w1 ⟨rfl, h1⟩
    have hb := hb.trans (h1.mono hb.size)
    clear h1
    go_wp2
    go_ret
    exact ⟨rfl, hb⟩
  · go_enter Try.func9, Try.ntmps9
    have hb := Below.refl w.heap.size w
    go_wp2_with fail
    refine (awake_any _).mono ?_
    rintro e w1 ⟨rfl, h1⟩
    have hb := hb.trans (h1.mono hb.size)
    clear h1
    go_wp2
    go_ret
    exact ⟨rfl, hb⟩
  · go_enter Try.func9, Try.ntmps9
    have hb := Below.refl w.heap.size w
    go_wp2_with fail
    refine (awake_any _).mono ?_
    rintro e w1 ⟨rfl, h1⟩
    have hb := hb.trans (h1.mono hb.size)
    clear h1
    go_wp2
    go_ret
    exact ⟨rfl, hb⟩
  · go_enter Try.func9, Try.ntmps9
    have hb := Below.refl w.heap.size w
    go_wp2_with fail
    refine (awake_any _).mono ?_
    rintro e w1 ⟨rfl, h1⟩
    have hb := hb.trans (h1.mono hb.size)
    clear h1
    go_wp2
    go_ret
    exact ⟨rfl, hb⟩
  · go_enter Try.func9, Try.ntmps9
    have hb := Below.refl w.heap.size w
    go_wp2_with fail
    refine (awake_any _).mono ?_
    rintro e w1 ⟨rfl, h1⟩
    have hb := hb.trans (h1.mono hb.size)
    clear h1
    go_wp2
    go_ret
    exact ⟨rfl, hb⟩
  · go_enter Try.func9, Try.ntmps9
    have hb := Below.refl w.heap.size w
    go_wp2_with fail
    refine (awake_any _).mono ?_
    rintro e w1 ⟨rfl, h1⟩
    have hb := hb.trans (h1.mono hb.size)
    clear h1
    go_wp2
    go_ret
    exact ⟨rfl, hb⟩
  · have F1 := hideIt (show fileI a0 = a0 % 8 from if_pos (by omega))
    have R1 := hideIt (show rankI a0 = a0 / 8 from if_pos (by omega))
    cases ho : okI (a0 % 8 + a1) (a0 / 8 + a2) with
    | true =>
      have HO := hideIt ho
      have X := hideIt (ofFR_in _ _ ho).2.2.2
      have XR := (ofFR_in _ _ ho).1
      have Y : a0 + 8 * a2 + a1 = 8 * (a0 / 8 + a2) + (a0 % 8 + a1) := by omega
      have EQ : (8 * (a0 / 8 + a2) + (a0 % 8 + a1) == a0 + 8 * a2 + a1) = true := by rw [beq_iff_eq]; exact Y.symm
      have hD := step_dist a0 a1 a2 ⟨h1, by omega⟩ ⟨h3, h4⟩ ⟨h5, h6⟩ ho
      clear ho
      rw [X.out] at XR
      have XR0 := XR.1
      have XR1 := XR.2
      clear XR
      generalize hg : 8 * (a0 / 8 + a2) + (a0 % 8 + a1) = t at *
      have HG := hideIt hg
      have HY := hideIt Y
      clear hg Y
      by_cases z1 : a1 = 0
      · by_cases z2 : a2 = 0
        · have D := hideIt (hD.1 ⟨z1, z2⟩)
          have z1' : (a1 == 0) = true := by rw [beq_iff_eq]; exact z1
          have z2' : (a2 == 0) = true := by rw [beq_iff_eq]; exact z2
          clear z1 z2 hD
          go_enter Try.func9, Try.ntmps9
          have hb := Below.refl w.heap.size w
          go_wp2_with fail
          refine (awake_any _).mono ?_
          rintro e w1 ⟨rfl, h1⟩
          have hb := hb.trans (h1.mono hb.size)
          clear h1
          go_wp2_with fail
          refine (sFile_any a0 _).mono ?_
          rintro e w2 ⟨rfl, h1⟩
          have hb := hb.trans (h1.mono hb.size)
          clear h1
          rw [F1.out]
          go_wp2_with fail
          refine (sRank_any a0 _).mono ?_
          rintro e w3 ⟨rfl, h1⟩
          have hb := hb.trans (h1.mono hb.size)
          clear h1
          rw [R1.out]
          go_wp2_with fail
          refine (sOf_any _ _ _).mono ?_
          rintro e w4 ⟨rfl, rfl⟩
          rw [HO.out, X.out]
          go_wp2_with fail
          refine (sDistance_any a0 t _).mono ?_
          rintro e w5 ⟨rfl, h1⟩
          have hb := hb.trans (h1.mono hb.size)
          clear h1
          rw [D.out]
          go_wp2
          go_ret
          exact ⟨rfl, hb⟩
        · have D := hideIt (hD.2 (fun h => z2 h.2))
          have z1' : (a1 == 0) = true := by rw [beq_iff_eq]; exact z1
          have z2' : (a2 == 0) = false := by rw [beq_eq_false_iff_ne]; exact z2
          clear z1 z2 hD
          go_enter Try.func9, Try.ntmps9
          have hb := Below.refl w.heap.size w
          go_wp2_with fail
          refine (awake_any _).mono ?_
          rintro e w1 ⟨rfl, h1⟩
          have hb := hb.trans (h1.mono hb.size)
          clear h1
          go_wp2_with fail
          refine (sFile_any a0 _).mono ?_
          rintro e w2 ⟨rfl, h1⟩
          have hb := hb.trans (h1.mono hb.size)
          clear h1
          rw [F1.out]
          go_wp2_with fail
          refine (sRank_any a0 _).mono ?_
          rintro e w3 ⟨rfl, h1⟩
          have hb := hb.trans (h1.mono hb.size)
          clear h1
          rw [R1.out]
          go_wp2_with fail
          refine (sOf_any _ _ _).mono ?_
          rintro e w4 ⟨rfl, rfl⟩
          rw [HO.out, X.out]
          go_wp2_with fail
          refine (sDistance_any a0 t _).mono ?_
          rintro e w5 ⟨rfl, h1⟩
          have hb := hb.trans (h1.mono hb.size)
          clear h1
          rw [D.out]
          go_wp2
          go_ret
          exact ⟨rfl, hb⟩
      · have D := hideIt (hD.2 (fun h => z1 h.1))
        have z1' : (a1 == 0) = false := by rw [beq_eq_false_iff_ne]; exact z1
        clear z1 hD
        go_enter Try.func9, Try.ntmps9
        have hb := Below.refl w.heap.size w
        go_wp2_with fail
        refine (awake_any _).mono ?_
        rintro e w1 ⟨rfl, h1⟩
        have hb := hb.trans (h1.mono hb.size)
        clear h1
        go_wp2_with fail
        refine (sFile_any a0 _).mono ?_
        rintro e w2 ⟨rfl, h1⟩
        have hb := hb.trans (h1.mono hb.size)
        clear h1
        rw [F1.out]
        go_wp2_with fail
        refine (sRank_any a0 _).mono ?_
        rintro e w3 ⟨rfl, h1⟩
        have hb := hb.trans (h1.mono hb.size)
        clear h1
        rw [R1.out]
        go_wp2_with fail
        refine (sOf_any _ _ _).mono ?_
        rintro e w4 ⟨rfl, rfl⟩
        rw [HO.out, X.out]
        go_wp2_with fail
        refine (sDistance_any a0 t _).mono ?_
        rintro e w5 ⟨rfl, h1⟩
        have hb := hb.trans (h1.mono hb.size)
        clear h1
        rw [D.out]
        go_wp2
        go_ret
        exact ⟨rfl, hb⟩
    | false =>
      have HO := hideIt ho
      have X := hideIt (ofFR_out _ _ ho)
      have hd := okI_out _ _ ho
      clear ho
      rcases Int.lt_or_le (a0 % 8 + a1) 0 with k1 | k1
      · go_enter Try.func9, Try.ntmps9
        have hb := Below.refl w.heap.size w
        go_wp2_with fail
        refine (awake_any _).mono ?_
        rintro e w1 ⟨rfl, h1⟩
        have hb := hb.trans (h1.mono hb.size)
        clear h1
        go_wp2_with fail
        refine (sFile_any a0 _).mono ?_
        rintro e w2 ⟨rfl, h1⟩
        have hb := hb.trans (h1.mono hb.size)
        clear h1
        rw [F1.out]
        go_wp2_with fail
        refine (sRank_any a0 _).mono ?_
        rintro e w3 ⟨rfl, h1⟩
        have hb := hb.trans (h1.mono hb.size)
        clear h1
        rw [R1.out]
        go_wp2_with fail
        refine (sOf_any _ _ _).mono ?_
        rintro e w4 ⟨rfl, rfl⟩
        rw [HO.out, X.out]
        go_wp2_with fail
        refine (sFile_any a0 _).mono ?_
        rintro e w5 ⟨rfl, h1⟩
        have hb := hb.trans (h1.mono hb.size)
        clear h1
        rw [F1.out]
        go_wp2
        go_ret
        exact ⟨rfl, hb⟩
      · rcases Int.lt_or_le 7 (a0 % 8 + a1) with k2 | k2
        · go_enter Try.func9, Try.ntmps9
          have hb := Below.refl w.heap.size w
          go_wp2_with fail
          refine (awake_any _).mono ?_
          rintro e w1 ⟨rfl, h1⟩
          have hb := hb.trans (h1.mono hb.size)
          clear h1
          go_wp2_with fail
          refine (sFile_any a0 _).mono ?_
          rintro e w2 ⟨rfl, h1⟩
          have hb := hb.trans (h1.mono hb.size)
          clear h1
          rw [F1.out]
          go_wp2_with fail
          refine (sRank_any a0 _).mono ?_
          rintro e w3 ⟨rfl, h1⟩
          have hb := hb.trans (h1.mono hb.size)
          clear h1
          rw [R1.out]
          go_wp2_with fail
          refine (sOf_any _ _ _).mono ?_
          rintro e w4 ⟨rfl, rfl⟩
          rw [HO.out, X.out]
          go_wp2_with fail
          refine (sFile_any a0 _).mono ?_
          rintro e w5 ⟨rfl, h1⟩
          have hb := hb.trans (h1.mono hb.size)
          clear h1
          rw [F1.out]
          go_wp2_with fail
          refine (sFile_any a0 _).mono ?_
          rintro e w6 ⟨rfl, h1⟩
          have hb := hb.trans (h1.mono hb.size)
          clear h1
          rw [F1.out]
          go_wp2
          go_ret
          exact ⟨rfl, hb⟩
        · rcases Int.lt_or_le (a0 / 8 + a2) 0 with k3 | k3
          · go_enter Try.func9, Try.ntmps9
            have hb := Below.refl w.heap.size w
            go_wp2_with fail
            refine (awake_any _).mono ?_
            rintro e w1 ⟨rfl, h1⟩
            have hb := hb.trans (h1.mono hb.size)
            clear h1
            go_wp2_with fail
            refine (sFile_any a0 _).mono ?_
            rintro e w2 ⟨rfl, h1⟩
            have hb := hb.trans (h1.mono hb.size)
            clear h1
            rw [F1.out]
            go_wp2_with fail
            refine (sRank_any a0 _).mono ?_
            rintro e w3 ⟨rfl, h1⟩
            have hb := hb.trans (h1.mono hb.size)
            clear h1
            rw [R1.out]
            go_wp2_with fail
            refine (sOf_any _ _ _).mono ?_
            rintro e w4 ⟨rfl, rfl⟩
            rw [HO.out, X.out]
            go_wp2_with fail
            refine (sFile_any a0 _).mono ?_
            rintro e w5 ⟨rfl, h1⟩
            have hb := hb.trans (h1.mono hb.size)
            clear h1
            rw [F1.out]
            go_wp2_with fail
            refine (sFile_any a0 _).mono ?_
            rintro e w6 ⟨rfl, h1⟩
            have hb := hb.trans (h1.mono hb.size)
            clear h1
            rw [F1.out]
            go_wp2_with fail
            refine (sRank_any a0 _).mono ?_
            rintro e w7 ⟨rfl, h1⟩
            have hb := hb.trans (h1.mono hb.size)
            clear h1
            rw [R1.out]
            go_wp2
            go_ret
            exact ⟨rfl, hb⟩
          · have k4 : 7 < a0 / 8 + a2 := by omega
            clear hd
            go_enter Try.func9, Try.ntmps9
            have hb := Below.refl w.heap.size w
            go_wp2_with fail
            refine (awake_any _).mono ?_
            rintro e w1 ⟨rfl, h1⟩
            have hb := hb.trans (h1.mono hb.size)
            clear h1
            go_wp2_with fail
            refine (sFile_any a0 _).mono ?_
            rintro e w2 ⟨rfl, h1⟩
            have hb := hb.trans (h1.mono hb.size)
            clear h1
            rw [F1.out]
            go_wp2_with fail
            refine (sRank_any a0 _).mono ?_
            rintro e w3 ⟨rfl, h1⟩
            have hb := hb.trans (h1.mono hb.size)
            clear h1
            rw [R1.out]
            go_wp2_with fail
            refine (sOf_any _ _ _).mono ?_
            rintro e w4 ⟨rfl, rfl⟩
            rw [HO.out, X.out]
            go_wp2_with fail
            refine (sFile_any a0 _).mono ?_
            rintro e w5 ⟨rfl, h1⟩
            have hb := hb.trans (h1.mono hb.size)
            clear h1
            rw [F1.out]
            go_wp2_with fail
            refine (sFile_any a0 _).mono ?_
            rintro e w6 ⟨rfl, h1⟩
            have hb := hb.trans (h1.mono hb.size)
            clear h1
            rw [F1.out]
            go_wp2_with fail
            refine (sRank_any a0 _).mono ?_
            rintro e w7 ⟨rfl, h1⟩
            have hb := hb.trans (h1.mono hb.size)
            clear h1
            rw [R1.out]
            go_wp2_with fail
            refine (sRank_any a0 _).mono ?_
            rintro e w8 ⟨rfl, h1⟩
            have hb := hb.trans (h1.mono hb.size)
            clear h1
            rw [R1.out]
            go_wp2
            go_ret
            exact ⟨rfl, hb⟩

end Go.Proofs.Ytonlfgldhnkcgaa
