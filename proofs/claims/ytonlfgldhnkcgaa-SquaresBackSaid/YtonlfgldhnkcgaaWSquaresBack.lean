/- The walk of SquaresBack. -/
import Derived.Test.YtonlfgldhnkcgaaAw2
import Derived.Test.YtonlfgldhnkcgaaS3
namespace Go.Proofs.Ytonlfgldhnkcgaa
open Go Go.RowKit

set_option maxHeartbeats 1600000 in
theorem squaresBack_walk (a0 : Int) (_w0 : (Lit.int .i64 a0).wf = true) (w : World) :
    Calls Try.prog 6 #[.int .i64 a0] w fun e w' => e = .returned (.bool true) ∧ Below w.heap.size w w' := by
  by_cases h : 0 ≤ a0 ∧ a0 < 64
  · have F1 := hideIt (show fileI a0 = a0 % 8 from if_pos h)
    have R1 := hideIt (show rankI a0 = a0 / 8 from if_pos h)
    have O1 := hideIt (ofFR_self a0 h)
    have P1 := hideIt (read_self a0 h)
    have X1 := hideIt (flipS_flip a0 h)
    have Z1 : ByteArray.size ⟨(textL a0).toArray⟩ = 2 := by unfold textL; rw [if_pos h]; rfl
    have T1 : ∃ T, (⟨(textL a0).toArray⟩ : ByteArray) = T := ⟨_, rfl⟩
    obtain ⟨T, hT⟩ := T1
    rw [hT] at Z1
    have P1 := hideIt (show readI T = a0 ∧ readB T = true by rw [← hT]; exact P1.out)
    have HT := hideIt hT
    clear hT
    have h0 := h.1
    have h1 := h.2
    clear h
    go_enter Try.func6, Try.ntmps6
    have hb := Below.refl w.heap.size w
    go_wp2_with fail
    refine (awake_any _).mono ?_
    rintro e w1 ⟨rfl, h1⟩
    have hb := hb.trans (h1.mono hb.size)
    clear h1
    go_wp2_with fail
    refine (sFile_any a0 _).mono ?_
    rintro e w2 ⟨rfl, h1⟩
    have hb := hb.trans (h1.mono hb.size)
    clear h1
    rw [F1.out]
    go_wp2_with fail
    refine (sRank_any a0 _).mono ?_
    rintro e w3 ⟨rfl, h1⟩
    have hb := hb.trans (h1.mono hb.size)
    clear h1
    rw [R1.out]
    go_wp2_with fail
    refine (sText_any a0 _).mono ?_
    rintro e w4 ⟨rfl, h1⟩
    have hb := hb.trans (h1.mono hb.size)
    clear h1
    rw [HT.out]
    go_wp2_with fail
    refine (sOf_any _ _ _).mono ?_
    rintro e w5 ⟨rfl, rfl⟩
    rw [O1.out.1, O1.out.2]
    go_wp2_with fail
    refine (sParse_any T (by omega) _).mono ?_
    rintro e w6 ⟨rfl, h1⟩
    have hb := hb.trans (h1.mono hb.size)
    clear h1
    rw [P1.out.1, P1.out.2]
    go_wp2_with fail
    refine (sFlip_any a0 _).mono ?_
    rintro e w7 ⟨rfl, h1⟩
    have hb := hb.trans (h1.mono hb.size)
    clear h1
    go_wp2_with fail
    refine (sFlip_any (flipS a0) _).mono ?_
    rintro e w8 ⟨rfl, h1⟩
    have hb := hb.trans (h1.mono hb.size)
    clear h1
    rw [X1.out]
    go_wp2
    go_ret
    exact ⟨rfl, hb⟩
  · have F1 := hideIt (show fileI a0 = -1 from if_neg h)
    have R1 := hideIt (show rankI a0 = -1 from if_neg h)
    have T1 := hideIt (show textL a0 = [] from if_neg h)
    have hc : a0 < 0 ∨ (0 ≤ a0 ∧ 63 < a0) := by omega
    clear h
    rcases hc with h1 | ⟨h1, h2⟩
    all_goals
      go_enter Try.func6, Try.ntmps6
      have hb := Below.refl w.heap.size w
      go_wp2_with fail
      refine (awake_any _).mono ?_
      rintro e w1 ⟨rfl, h1⟩
      have hb := hb.trans (h1.mono hb.size)
      clear h1
      go_wp2_with fail
      refine (sFile_any a0 _).mono ?_
      rintro e w2 ⟨rfl, h1⟩
      have hb := hb.trans (h1.mono hb.size)
      clear h1
      rw [F1.out]
      go_wp2_with fail
      refine (sRank_any a0 _).mono ?_
      rintro e w3 ⟨rfl, h1⟩
      have hb := hb.trans (h1.mono hb.size)
      clear h1
      rw [R1.out]
      go_wp2_with fail
      refine (sText_any a0 _).mono ?_
      rintro e w4 ⟨rfl, h1⟩
      have hb := hb.trans (h1.mono hb.size)
      clear h1
      rw [T1.out]
      go_wp2_with fail
      refine (sOf_any _ _ _).mono ?_
      rintro e w5 ⟨rfl, rfl⟩
      rw [show ofFR (-1) (-1) = 0 by decide, show okI (-1) (-1) = false by decide]
      go_wp2_with fail
      refine (sParse_any _ (by decide) _).mono ?_
      rintro e w6 ⟨rfl, h1⟩
      have hb := hb.trans (h1.mono hb.size)
      clear h1
      rw [show readI ⟨[].toArray⟩ = 0 by decide +kernel, show readB ⟨[].toArray⟩ = false by decide +kernel]
      go_wp2
      go_ret
      exact ⟨rfl, hb⟩

end Go.Proofs.Ytonlfgldhnkcgaa
