/- The walk of SquaresTexts. -/
import Derived.Test.YtonlfgldhnkcgaaST
namespace Go.Proofs.Ytonlfgldhnkcgaa
open Go Go.RowKit

set_option maxHeartbeats 800000 in
theorem squaresTexts_walk (a0 : Int) (a1 : ByteArray) (_w0 : (Lit.int .i64 a0).wf = true) (_w1 : a1.size ≤ maxLen) (w : World) :
    Calls Try.prog 5 #[.int .i64 a0, .string a1] w fun e w' => e = .returned (.bool true) ∧ Below w.heap.size w w' := by
  by_cases h : a1.size ≤ 5000
  · go_enter Try.func5, Try.ntmps5
    have hb := Below.refl w.heap.size w
    go_wp2_with fail
    refine (sParse_any a1 (by omega) _).mono ?_
    rintro e w1 ⟨rfl, h1⟩
    have hb := hb.trans (h1.mono hb.size)
    clear h1
    go_wp2_with fail
    refine (rParse_any a1 _).mono ?_
    rintro e w2 ⟨rfl, h1⟩
    have hb := hb.trans (h1.mono hb.size)
    clear h1
    go_wp2_with fail
    refine (sText_any a0 _).mono ?_
    rintro e w3 ⟨rfl, h1⟩
    have hb := hb.trans (h1.mono hb.size)
    clear h1
    go_wp2_with fail
    refine (rText_any a0 _).mono ?_
    rintro e w4 ⟨rfl, h1⟩
    have hb := hb.trans (h1.mono hb.size)
    clear h1
    go_wp2
    go_ret
    exact ⟨rfl, hb⟩
  · go_enter Try.func5, Try.ntmps5
    go_wp2
    go_ret
    exact ⟨rfl, Below.refl _ _⟩

end Go.Proofs.Ytonlfgldhnkcgaa
