/- The walk of BoardPut: no square, no piece; the four cases. -/
import Derived.Test.YtlobmhhilkmfdaaDoorWBPa
import Derived.Test.YtlobmhhilkmfdaaDoorWBPb
import Derived.Test.YtlobmhhilkmfdaaDoorWBPc
import Derived.Test.YtlobmhhilkmfdaaDoorWBPd
namespace Go.Proofs.YtlobmhhilkmfdaaDoor
open Go Go.RowKit

theorem boardPut_walk (n : Nat → Int) (a1 : Int) (a2 : Int) (a3 : Int) (w0 : PosOk n) (_w1 : (Lit.int .i64 a1).wf = true) (_w2 : (Lit.int .i64 a2).wf = true) (w3 : (Lit.int .u8 a3).wf = true) (w : World) (hT : Tab w) :
    Calls Tryd.prog 7 #[.agg (posA n), .int .i64 a1, .int .i64 a2, .int .u8 a3] w fun e w' => e = .returned (.bool true) ∧ Below w.heap.size w w' := by
  obtain ⟨x0, x1⟩ := wf_u8 w3
  by_cases hs : 0 ≤ a1 ∧ a1 ≤ 63
  · by_cases hz : a3 = 0 ∨ isB a3 = true
    · by_cases ho : a2 = a1
      · by_cases h3 : a3 = 0
        · exact boardPut_a n a1 a2 a3 w0 x0 x1 hs.1 hs.2 ho h3 hz w hT
        · exact boardPut_b n a1 a2 a3 w0 x0 x1 hs.1 hs.2 ho h3 hz w hT
      · by_cases h3 : a3 = 0
        · exact boardPut_c n a1 a2 a3 w0 x0 x1 hs.1 hs.2 ho h3 hz w hT
        · exact boardPut_d n a1 a2 a3 w0 x0 x1 hs.1 hs.2 ho h3 hz w hT
    · refine boardPut_no n a1 a2 a3 w0 x0 x1 (.inr (.inr ⟨hs.1, hs.2, fun e => hz (.inl e), ?_⟩)) w hT
      cases h : isB a3 with
      | false => rfl
      | true => exact absurd (.inr h) hz
  · refine boardPut_no n a1 a2 a3 w0 x0 x1 ?_ w hT
    by_cases h : a1 < 0
    · exact .inl h
    · exact .inr (.inl ⟨by omega, by omega⟩)

end Go.Proofs.YtlobmhhilkmfdaaDoor
