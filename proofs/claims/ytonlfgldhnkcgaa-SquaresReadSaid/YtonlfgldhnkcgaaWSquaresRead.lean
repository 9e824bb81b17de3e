/- The walk of SquaresRead. -/
import Derived.Test.YtonlfgldhnkcgaaAw2
import Derived.Test.YtonlfgldhnkcgaaS3
namespace Go.Proofs.Ytonlfgldhnkcgaa
open Go Go.RowKit

set_option maxHeartbeats 1600000 in
theorem squaresRead_walk (a0 : ByteArray) (a1 : Int) (a2 : Int) (_w0 : a0.size ≤ maxLen) (_w1 : (Lit.int .i64 a1).wf = true) (_w2 : (Lit.int .i64 a2).wf = true) (w : World) :
    Calls Try.prog 7 #[.string a0, .int .i64 a1, .int .i64 a2] w fun e w' => e = .returned (.bool true) ∧ Below w.heap.size w w' := by
  by_cases hz : a0.size ≤ 5000
  · cases hr : readB a0 with
    | true =>
      obtain ⟨g0, g1, g2⟩ := read_text a0 hr
      have HR := hideIt hr
      have G := hideIt g2
      have e1 : (textL (readI a0) == a0.toList) = true := text_eq _ _ g2
      clear g2 hr
      cases ho : okI a1 a2 with
      | true =>
        have HO := hideIt ho
        have X := hideIt (ofFR_in a1 a2 ho)
        clear ho
        go_enter Try.func7, Try.ntmps7
        have hb := Below.refl w.heap.size w
        go_wp2_with fail
        refine (awake_any _).mono ?_
        rintro e w1 ⟨rfl, h1⟩
        have hb := hb.trans (h1.mono hb.size)
        clear h1
        go_wp2_with fail
        refine (sParse_any a0 (by omega) _).mono ?_
        rintro e w2 ⟨rfl, h1⟩
        have hb := hb.trans (h1.mono hb.size)
        clear h1
        rw [HR.out]
        go_wp2_with fail
        refine (sText_any _ _).mono ?_
        rintro e w3 ⟨rfl, h1⟩
        have hb := hb.trans (h1.mono hb.size)
        clear h1
        go_wp2_with fail
        refine (sOf_any a1 a2 _).mono ?_
        rintro e w4 ⟨rfl, rfl⟩
        rw [HO.out]
        go_wp2_with fail
        refine (sFile_any _ _).mono ?_
        rintro e w5 ⟨rfl, h1⟩
        have hb := hb.trans (h1.mono hb.size)
        clear h1
        rw [X.out.2.1]
        go_wp2_with fail
        refine (sRank_any _ _).mono ?_
        rintro e w6 ⟨rfl, h1⟩
        have hb := hb.trans (h1.mono hb.size)
        clear h1
        rw [X.out.2.2.1]
        go_wp2
        go_ret
        exact ⟨rfl, hb⟩
      | false =>
        have HO := hideIt ho
        have X := hideIt (ofFR_out a1 a2 ho)
        have hd := okI_out a1 a2 ho
        clear ho
        rcases Int.lt_or_le a1 0 with k1 | k1
        · go_enter Try.func7, Try.ntmps7
          have hb := Below.refl w.heap.size w
          go_wp2_with fail
          refine (awake_any _).mono ?_
          rintro e w1 ⟨rfl, h1⟩
          have hb := hb.trans (h1.mono hb.size)
          clear h1
          go_wp2_with fail
          refine (sParse_any a0 (by omega) _).mono ?_
          rintro e w2 ⟨rfl, h1⟩
          have hb := hb.trans (h1.mono hb.size)
          clear h1
          rw [HR.out]
          go_wp2_with fail
          refine (sText_any _ _).mono ?_
          rintro e w3 ⟨rfl, h1⟩
          have hb := hb.trans (h1.mono hb.size)
          clear h1
          go_wp2_with fail
          refine (sOf_any a1 a2 _).mono ?_
          rintro e w4 ⟨rfl, rfl⟩
          rw [HO.out, X.out]
          go_wp2
          go_ret
          exact ⟨rfl, hb⟩
        · rcases Int.lt_or_le 7 a1 with k2 | k2
          · go_enter Try.func7, Try.ntmps7
            have hb := Below.refl w.heap.size w
            go_wp2_with fail
            refine (awake_any _).mono ?_
            rintro e w1 ⟨rfl, h1⟩
            have hb := hb.trans (h1.mono hb.size)
            clear h1
            go_wp2_with fail
            refine (sParse_any a0 (by omega) _).mono ?_
            rintro e w2 ⟨rfl, h1⟩
            have hb := hb.trans (h1.mono hb.size)
            clear h1
            rw [HR.out]
            go_wp2_with fail
            refine (sText_any _ _).mono ?_
            rintro e w3 ⟨rfl, h1⟩
            have hb := hb.trans (h1.mono hb.size)
            clear h1
            go_wp2_with fail
            refine (sOf_any a1 a2 _).mono ?_
            rintro e w4 ⟨rfl, rfl⟩
            rw [HO.out, X.out]
            go_wp2
            go_ret
            exact ⟨rfl, hb⟩
          · rcases Int.lt_or_le a2 0 with k3 | k3
            · go_enter Try.func7, Try.ntmps7
              have hb := Below.refl w.heap.size w
              go_wp2_with fail
              refine (awake_any _).mono ?_
              rintro e w1 ⟨rfl, h1⟩
              have hb := hb.trans (h1.mono hb.size)
              clear h1
              go_wp2_with fail
              refine (sParse_any a0 (by omega) _).mono ?_
              rintro e w2 ⟨rfl, h1⟩
              have hb := hb.trans (h1.mono hb.size)
              clear h1
              rw [HR.out]
              go_wp2_with fail
              refine (sText_any _ _).mono ?_
              rintro e w3 ⟨rfl, h1⟩
              have hb := hb.trans (h1.mono hb.size)
              clear h1
              go_wp2_with fail
              refine (sOf_any a1 a2 _).mono ?_
              rintro e w4 ⟨rfl, rfl⟩
              rw [HO.out, X.out]
              go_wp2
              go_ret
              exact ⟨rfl, hb⟩
            · have k4 : 7 < a2 := by omega
              clear hd
              go_enter Try.func7, Try.ntmps7
              have hb := Below.refl w.heap.size w
              go_wp2_with fail
              refine (awake_any _).mono ?_
              rintro e w1 ⟨rfl, h1⟩
              have hb := hb.trans (h1.mono hb.size)
              clear h1
              go_wp2_with fail
              refine (sParse_any a0 (by omega) _).mono ?_
              rintro e w2 ⟨rfl, h1⟩
              have hb := hb.trans (h1.mono hb.size)
              clear h1
              rw [HR.out]
              go_wp2_with fail
              refine (sText_any _ _).mono ?_
              rintro e w3 ⟨rfl, h1⟩
              have hb := hb.trans (h1.mono hb.size)
              clear h1
              go_wp2_with fail
              refine (sOf_any a1 a2 _).mono ?_
              rintro e w4 ⟨rfl, rfl⟩
              rw [HO.out, X.out]
              go_wp2
              go_ret
              exact ⟨rfl, hb⟩
    | false =>
      have HR := hideIt hr
      have G := hideIt (read_zero a0 hr)
      clear hr
      cases ho : okI a1 a2 with
      | true =>
        have HO := hideIt ho
        have X := hideIt (ofFR_in a1 a2 ho)
        clear ho
        go_enter Try.func7, Try.ntmps7
        have hb := Below.refl w.heap.size w
        go_wp2_with fail
        refine (awake_any _).mono ?_
        rintro e w1 ⟨rfl, h1⟩
        have hb := hb.trans (h1.mono hb.size)
        clear h1
        go_wp2_with fail
        refine (sParse_any a0 (by omega) _).mono ?_
        rintro e w2 ⟨rfl, h1⟩
        have hb := hb.trans (h1.mono hb.size)
        clear h1
        rw [HR.out, G.out]
        go_wp2_with fail
        refine (sOf_any a1 a2 _).mono ?_
        rintro e w3 ⟨rfl, rfl⟩
        rw [HO.out]
        go_wp2_with fail
        refine (sFile_any _ _).mono ?_
        rintro e w4 ⟨rfl, h1⟩
        have hb := hb.trans (h1.mono hb.size)
        clear h1
        rw [X.out.2.1]
        go_wp2_with fail
        refine (sRank_any _ _).mono ?_
        rintro e w5 ⟨rfl, h1⟩
        have hb := hb.trans (h1.mono hb.size)
        clear h1
        rw [X.out.2.2.1]
        go_wp2
        go_ret
        exact ⟨rfl, hb⟩
      | false =>
        have HO := hideIt ho
        have X := hideIt (ofFR_out a1 a2 ho)
        have hd := okI_out a1 a2 ho
        clear ho
        rcases Int.lt_or_le a1 0 with k1 | k1
        · go_enter Try.func7, Try.ntmps7
          have hb := Below.refl w.heap.size w
          go_wp2_with fail
          refine (awake_any _).mono ?_
          rintro e w1 ⟨rfl, h1⟩
          have hb := hb.trans (h1.mono hb.size)
          clear h1
          go_wp2_with fail
          refine (sParse_any a0 (by omega) _).mono ?_
          rintro e w2 ⟨rfl, h1⟩
          have hb := hb.trans (h1.mono hb.size)
          clear h1
          rw [HR.out, G.out]
          go_wp2_with fail
          refine (sOf_any a1 a2 _).mono ?_
          rintro e w3 ⟨rfl, rfl⟩
          rw [HO.out, X.out]
          go_wp2
          go_ret
          exact ⟨rfl, hb⟩
        · rcases Int.lt_or_le 7 a1 with k2 | k2
          · go_enter Try.func7, Try.ntmps7
            have hb := Below.refl w.heap.size w
            go_wp2_with fail
            refine (awake_any _).mono ?_
            rintro e w1 ⟨rfl, h1⟩
            have hb := hb.trans (h1.mono hb.size)
            clear h1
            go_wp2_with fail
            refine (sParse_any a0 (by omega) _).mono ?_
            rintro e w2 ⟨rfl, h1⟩
            have hb := hb.trans (h1.mono hb.size)
            clear h1
            rw [HR.out, G.out]
            go_wp2_with fail
            refine (sOf_any a1 a2 _).mono ?_
            rintro e w3 ⟨rfl, rfl⟩
            rw [HO.out, X.out]
            go_wp2
            go_ret
            exact ⟨rfl, hb⟩
          · rcases Int.lt_or_le a2 0 with k3 | k3
            · go_enter Try.func7, Try.ntmps7
              have hb := Below.refl w.heap.size w
              go_wp2_with fail
              refine (awake_any _).mono ?_
              rintro e w1 ⟨rfl, h1⟩
              have hb := hb.trans (h1.mono hb.size)
              clear h1
              go_wp2_with fail
              refine (sParse_any a0 (by omega) _).mono ?_
              rintro e w2 ⟨rfl, h1⟩
              have hb := hb.trans (h1.mono hb.size)
              clear h1
              rw [HR.out, G.out]
              go_wp2_with fail
              refine (sOf_any a1 a2 _).mono ?_
              rintro e w3 ⟨rfl, rfl⟩
              rw [HO.out, X.out]
              go_wp2
              go_ret
              exact ⟨rfl, hb⟩
            · have k4 : 7 < a2 := by omega
              clear hd
              go_enter Try.func7, Try.ntmps7
              have hb := Below.refl w.heap.size w
              go_wp2_with fail
              refine (awake_any _).mono ?_
              rintro e w1 ⟨rfl, h1⟩
              have hb := hb.trans (h1.mono hb.size)
              clear h1
              go_wp2_with fail
              refine (sParse_any a0 (by omega) _).mono ?_
              rintro e w2 ⟨rfl, h1⟩
              have hb := hb.trans (h1.mono hb.size)
              clear h1
              rw [HR.out, G.out]
              go_wp2_with fail
              refine (sOf_any a1 a2 _).mono ?_
              rintro e w3 ⟨rfl, rfl⟩
              rw [HO.out, X.out]
              go_wp2
              go_ret
              exact ⟨rfl, hb⟩
  · go_enter Try.func7, Try.ntmps7
    have hb := Below.refl w.heap.size w
    go_wp2_with fail
    refine (awake_any _).mono ?_
    rintro e w1 ⟨rfl, h1⟩
    have hb := hb.trans (h1.mono hb.size)
    clear h1
    go_wp2
    go_ret
    exact ⟨rfl, hb⟩

end Go.Proofs.Ytonlfgldhnkcgaa
