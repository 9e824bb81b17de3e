/- The walk of RaysNone. -/
import Derived.Test.YtloncbjkipjepaaAw3
import Derived.Test.YtloncbjkipjepaaY5
namespace Go.Proofs.Ytloncbjkipjepaa
open Go Go.RowKit

set_option maxHeartbeats 1600000 in
theorem raysNone_walk (a0 : Int) (a1 : Int) (a2 : Int) (_w0 : (Lit.int .i64 a0).wf = true) (_w1 : (Lit.int .i64 a1).wf = true) (_w2 : (Lit.int .u8 a2).wf = true) (w : World) :
    Calls Try.prog 8 #[.int .i64 a0, .int .i64 a1, .int .u8 a2] w fun e w' => e = .returned (.bool true) ∧ Below w.heap.size w w' := by
  by_cases h : 0 ≤ a0 ∧ a0 < 64
  · have c1 := king_cnt a0 h
    have c2 := knight_cnt a0 h
    obtain ⟨c1, c3⟩ := c1
    obtain ⟨c2, c4⟩ := c2
    have KD := hideIt (king_dist a0 h a1)
    have h0 := h.1
    have h1 := h.2
    cases hn : hasB (knightB a0) a1 with
    | true =>
      have ND := hideIt (knight_dist a0 h a1 hn)
      have HN := hideIt hn
      clear hn
      by_cases hc : 1 < a2
      · have P := hideIt (show pawnB a2 a0 = 0#64 by unfold pawnB; rw [if_neg (by omega), if_neg (by omega)])
        go_enter Try.func8, Try.ntmps8
        have hb := Below.refl w.heap.size w
        go_wp2_with fail
        refine (awake_any _).mono ?_
        rintro e w1 ⟨rfl, h1⟩
        have hb := hb.trans (h1.mono hb.size)
        clear h1
        go_wp2_with fail
        refine (king_any a0 _).mono ?_
        rintro e w2 ⟨rfl, h1⟩
        have hb := hb.trans (h1.mono hb.size)
        clear h1
        go_wp2_with fail
        refine (knight_any a0 _).mono ?_
        rintro e w3 ⟨rfl, h1⟩
        have hb := hb.trans (h1.mono hb.size)
        clear h1
        go_wp2_with fail
        refine (count_any (kingB a0) rfl _).mono ?_
        rintro e w4 ⟨rfl, rfl⟩
        go_wp2_with fail
        refine (count_any (kingB a0) rfl _).mono ?_
        rintro e w5 ⟨rfl, rfl⟩
        go_wp2_with fail
        refine (count_any (knightB a0) rfl _).mono ?_
        rintro e w6 ⟨rfl, rfl⟩
        go_wp2_with fail
        refine (count_any (knightB a0) rfl _).mono ?_
        rintro e w7 ⟨rfl, rfl⟩
        go_wp2_with fail
        refine (pawn_any a2 a0 _).mono ?_
        rintro e w8 ⟨rfl, h1⟩
        have hb := hb.trans (h1.mono hb.size)
        clear h1
        rw [P.out, u_zero]
        go_wp2_with fail
        refine (has_any (kingB a0) rfl a1 _).mono ?_
        rintro e w9 ⟨rfl, rfl⟩
        rw [KD.out]
        go_wp2_with fail
        refine (sDistance_any a0 a1 _).mono ?_
        rintro e w10 ⟨rfl, h1⟩
        have hb := hb.trans (h1.mono hb.size)
        clear h1
        go_wp2_with fail
        refine (has_any (knightB a0) rfl a1 _).mono ?_
        rintro e w11 ⟨rfl, rfl⟩
        rw [HN.out]
        go_wp2_with fail
        refine (sDistance_any a0 a1 _).mono ?_
        rintro e w12 ⟨rfl, h1⟩
        have hb := hb.trans (h1.mono hb.size)
        clear h1
        rw [ND.out]
        go_wp2
        go_ret
        exact ⟨rfl, hb⟩
      · go_enter Try.func8, Try.ntmps8
        have hb := Below.refl w.heap.size w
        go_wp2_with fail
        refine (awake_any _).mono ?_
        rintro e w1 ⟨rfl, h1⟩
        have hb := hb.trans (h1.mono hb.size)
        clear h1
        go_wp2_with fail
        refine (king_any a0 _).mono ?_
        rintro e w2 ⟨rfl, h1⟩
        have hb := hb.trans (h1.mono hb.size)
        clear h1
        go_wp2_with fail
        refine (knight_any a0 _).mono ?_
        rintro e w3 ⟨rfl, h1⟩
        have hb := hb.trans (h1.mono hb.size)
        clear h1
        go_wp2_with fail
        refine (count_any (kingB a0) rfl _).mono ?_
        rintro e w4 ⟨rfl, rfl⟩
        go_wp2_with fail
        refine (count_any (kingB a0) rfl _).mono ?_
        rintro e w5 ⟨rfl, rfl⟩
        go_wp2_with fail
        refine (count_any (knightB a0) rfl _).mono ?_
        rintro e w6 ⟨rfl, rfl⟩
        go_wp2_with fail
        refine (count_any (knightB a0) rfl _).mono ?_
        rintro e w7 ⟨rfl, rfl⟩
        go_wp2_with fail
        refine (has_any (kingB a0) rfl a1 _).mono ?_
        rintro e w8 ⟨rfl, rfl⟩
        rw [KD.out]
        go_wp2_with fail
        refine (sDistance_any a0 a1 _).mono ?_
        rintro e w9 ⟨rfl, h1⟩
        have hb := hb.trans (h1.mono hb.size)
        clear h1
        go_wp2_with fail
        refine (has_any (knightB a0) rfl a1 _).mono ?_
        rintro e w10 ⟨rfl, rfl⟩
        rw [HN.out]
        go_wp2_with fail
        refine (sDistance_any a0 a1 _).mono ?_
        rintro e w11 ⟨rfl, h1⟩
        have hb := hb.trans (h1.mono hb.size)
        clear h1
        rw [ND.out]
        go_wp2
        go_ret
        exact ⟨rfl, hb⟩
    | false =>
      have HN := hideIt hn
      clear hn
      by_cases hc : 1 < a2
      · have P := hideIt (show pawnB a2 a0 = 0#64 by unfold pawnB; rw [if_neg (by omega), if_neg (by omega)])
        go_enter Try.func8, Try.ntmps8
        have hb := Below.refl w.heap.size w
        go_wp2_with fail
        refine (awake_any _).mono ?_
        rintro e w1 ⟨rfl, h1⟩
        have hb := hb.trans (h1.mono hb.size)
        clear h1
        go_wp2_with fail
        refine (king_any a0 _).mono ?_
        rintro e w2 ⟨rfl, h1⟩
        have hb := hb.trans (h1.mono hb.size)
        clear h1
        go_wp2_with fail
        refine (knight_any a0 _).mono ?_
        rintro e w3 ⟨rfl, h1⟩
        have hb := hb.trans (h1.mono hb.size)
        clear h1
        go_wp2_with fail
        refine (count_any (kingB a0) rfl _).mono ?_
        rintro e w4 ⟨rfl, rfl⟩
        go_wp2_with fail
        refine (count_any (kingB a0) rfl _).mono ?_
        rintro e w5 ⟨rfl, rfl⟩
        go_wp2_with fail
        refine (count_any (knightB a0) rfl _).mono ?_
        rintro e w6 ⟨rfl, rfl⟩
        go_wp2_with fail
        refine (count_any (knightB a0) rfl _).mono ?_
        rintro e w7 ⟨rfl, rfl⟩
        go_wp2_with fail
        refine (pawn_any a2 a0 _).mono ?_
        rintro e w8 ⟨rfl, h1⟩
        have hb := hb.trans (h1.mono hb.size)
        clear h1
        rw [P.out, u_zero]
        go_wp2_with fail
        refine (has_any (kingB a0) rfl a1 _).mono ?_
        rintro e w9 ⟨rfl, rfl⟩
        rw [KD.out]
        go_wp2_with fail
        refine (sDistance_any a0 a1 _).mono ?_
        rintro e w10 ⟨rfl, h1⟩
        have hb := hb.trans (h1.mono hb.size)
        clear h1
        go_wp2_with fail
        refine (has_any (knightB a0) rfl a1 _).mono ?_
        rintro e w11 ⟨rfl, rfl⟩
        rw [HN.out]
        go_wp2
        go_ret
        exact ⟨rfl, hb⟩
      · go_enter Try.func8, Try.ntmps8
        have hb := Below.refl w.heap.size w
        go_wp2_with fail
        refine (awake_any _).mono ?_
        rintro e w1 ⟨rfl, h1⟩
        have hb := hb.trans (h1.mono hb.size)
        clear h1
        go_wp2_with fail
        refine (king_any a0 _).mono ?_
        rintro e w2 ⟨rfl, h1⟩
        have hb := hb.trans (h1.mono hb.size)
        clear h1
        go_wp2_with fail
        refine (knight_any a0 _).mono ?_
        rintro e w3 ⟨rfl, h1⟩
        have hb := hb.trans (h1.mono hb.size)
        clear h1
        go_wp2_with fail
        refine (count_any (kingB a0) rfl _).mono ?_
        rintro e w4 ⟨rfl, rfl⟩
        go_wp2_with fail
        refine (count_any (kingB a0) rfl _).mono ?_
        rintro e w5 ⟨rfl, rfl⟩
        go_wp2_with fail
        refine (count_any (knightB a0) rfl _).mono ?_
        rintro e w6 ⟨rfl, rfl⟩
        go_wp2_with fail
        refine (count_any (knightB a0) rfl _).mono ?_
        rintro e w7 ⟨rfl, rfl⟩
        go_wp2_with fail
        refine (has_any (kingB a0) rfl a1 _).mono ?_
        rintro e w8 ⟨rfl, rfl⟩
        rw [KD.out]
        go_wp2_with fail
        refine (sDistance_any a0 a1 _).mono ?_
        rintro e w9 ⟨rfl, h1⟩
        have hb := hb.trans (h1.mono hb.size)
        clear h1
        go_wp2_with fail
        refine (has_any (knightB a0) rfl a1 _).mono ?_
        rintro e w10 ⟨rfl, rfl⟩
        rw [HN.out]
        go_wp2
        go_ret
        exact ⟨rfl, hb⟩
  · have K := hideIt (kingB_none h)
    have N := hideIt (knightB_none h)
    have P := hideIt (pawnB_none a2 h)
    have L := hideIt (line_none1 h a1)
    have B := hideIt (bet_none2 a1 h)
    have R := hideIt (ray_none1 h 0)
    have hc : a0 < 0 ∨ (0 ≤ a0 ∧ 63 < a0) := by omega
    clear h
    rcases hc with h1 | ⟨h1, h2⟩
    all_goals
      go_enter Try.func8, Try.ntmps8
      have hb := Below.refl w.heap.size w
      go_wp2_with fail
      refine (awake_any _).mono ?_
      rintro e w1 ⟨rfl, h1⟩
      have hb := hb.trans (h1.mono hb.size)
      clear h1
      go_wp2_with fail
      refine (king_any a0 _).mono ?_
      rintro e w2 ⟨rfl, h1⟩
      have hb := hb.trans (h1.mono hb.size)
      clear h1
      rw [K.out, u_zero]
      go_wp2_with fail
      refine (knight_any a0 _).mono ?_
      rintro e w3 ⟨rfl, h1⟩
      have hb := hb.trans (h1.mono hb.size)
      clear h1
      rw [N.out, u_zero]
      go_wp2_with fail
      refine (pawn_any a2 a0 _).mono ?_
      rintro e w4 ⟨rfl, h1⟩
      have hb := hb.trans (h1.mono hb.size)
      clear h1
      rw [P.out, u_zero]
      go_wp2_with fail
      refine (line_any a0 a1 _).mono ?_
      rintro e w5 ⟨rfl, h1⟩
      have hb := hb.trans (h1.mono hb.size)
      clear h1
      rw [L.out, u_zero]
      go_wp2_with fail
      refine (between_any a1 a0 _).mono ?_
      rintro e w6 ⟨rfl, h1⟩
      have hb := hb.trans (h1.mono hb.size)
      clear h1
      rw [B.out, u_zero]
      go_wp2_with fail
      refine (ray_any a0 0 _).mono ?_
      rintro e w7 ⟨rfl, h1⟩
      have hb := hb.trans (h1.mono hb.size)
      clear h1
      rw [R.out, u_zero]
      go_wp2
      go_ret
      exact ⟨rfl, hb⟩

end Go.Proofs.Ytloncbjkipjepaa
