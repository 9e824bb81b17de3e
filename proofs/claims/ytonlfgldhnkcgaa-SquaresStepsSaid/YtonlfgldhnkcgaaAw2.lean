/- The walk of awake of law 2. -/
import Derived.Test.YtonlfgldhnkcgaaST
namespace Go.Proofs.Ytonlfgldhnkcgaa
open Go Go.RowKit

set_option maxHeartbeats 1600000 in
theorem awake_any (w : World) :
    Calls Try.prog 24 #[] w fun e w' => e = .returned (.bool true) ∧ Below w.heap.size w w' := by
  go_enter Try.func24, Try.ntmps24
  have hb := Below.refl w.heap.size w
  go_wp2_with fail
  refine (sOf_any (4) (3) _).mono ?_
  rintro e w1 ⟨rfl, rfl⟩
  rw [show ofFR 4 3 = 28 by decide, show okI 4 3 = true by decide]
  go_wp2_with fail
  refine (sOf_any (8) (0) _).mono ?_
  rintro e w2 ⟨rfl, rfl⟩
  rw [show ofFR 8 0 = 0 by decide, show okI 8 0 = false by decide]
  go_wp2_with fail
  refine (sParse_any ⟨#[101, 52]⟩ (by decide) _).mono ?_
  rintro e w3 ⟨rfl, h1⟩
  have hb := hb.trans (h1.mono hb.size)
  clear h1
  rw [show readI ⟨#[101, 52]⟩ = 28 by decide +kernel, show readB ⟨#[101, 52]⟩ = true by decide +kernel]
  go_wp2_with fail
  refine (sParse_any ⟨#[69, 52]⟩ (by decide) _).mono ?_
  rintro e w4 ⟨rfl, h1⟩
  have hb := hb.trans (h1.mono hb.size)
  clear h1
  rw [show readI ⟨#[69, 52]⟩ = 0 by decide +kernel, show readB ⟨#[69, 52]⟩ = false by decide +kernel]
  go_wp2_with fail
  refine (sParse_any ⟨#[101, 57]⟩ (by decide) _).mono ?_
  rintro e w5 ⟨rfl, h1⟩
  have hb := hb.trans (h1.mono hb.size)
  clear h1
  rw [show readI ⟨#[101, 57]⟩ = 0 by decide +kernel, show readB ⟨#[101, 57]⟩ = false by decide +kernel]
  go_wp2_with fail
  refine (sFile_any (28) _).mono ?_
  rintro e w6 ⟨rfl, h1⟩
  have hb := hb.trans (h1.mono hb.size)
  clear h1
  rw [show fileI 28 = 4 by decide]
  go_wp2_with fail
  refine (sRank_any (28) _).mono ?_
  rintro e w7 ⟨rfl, h1⟩
  have hb := hb.trans (h1.mono hb.size)
  clear h1
  rw [show rankI 28 = 3 by decide]
  go_wp2_with fail
  refine (sFile_any (64) _).mono ?_
  rintro e w8 ⟨rfl, h1⟩
  have hb := hb.trans (h1.mono hb.size)
  clear h1
  rw [show fileI 64 = -1 by decide]
  go_wp2_with fail
  refine (sText_any (0) _).mono ?_
  rintro e w9 ⟨rfl, h1⟩
  have hb := hb.trans (h1.mono hb.size)
  clear h1
  rw [show textL 0 = [97, 49] by decide]
  go_wp2_with fail
  refine (sText_any (63) _).mono ?_
  rintro e w10 ⟨rfl, h1⟩
  have hb := hb.trans (h1.mono hb.size)
  clear h1
  rw [show textL 63 = [104, 56] by decide]
  go_wp2_with fail
  refine (sText_any (-1) _).mono ?_
  rintro e w11 ⟨rfl, h1⟩
  have hb := hb.trans (h1.mono hb.size)
  clear h1
  rw [show textL (-1) = [] by decide]
  go_wp2_with fail
  refine (sDistance_any (0) (63) _).mono ?_
  rintro e w12 ⟨rfl, h1⟩
  have hb := hb.trans (h1.mono hb.size)
  clear h1
  rw [show distI 0 63 = 7 by decide]
  go_wp2_with fail
  refine (sDistance_any (0) (0) _).mono ?_
  rintro e w13 ⟨rfl, h1⟩
  have hb := hb.trans (h1.mono hb.size)
  clear h1
  rw [show distI 0 0 = 0 by decide]
  go_wp2_with fail
  refine (sDistance_any (0) (64) _).mono ?_
  rintro e w14 ⟨rfl, h1⟩
  have hb := hb.trans (h1.mono hb.size)
  clear h1
  rw [show distI 0 64 = -1 by decide]
  go_wp2_with fail
  refine (sFlip_any (28) _).mono ?_
  rintro e w15 ⟨rfl, h1⟩
  have hb := hb.trans (h1.mono hb.size)
  clear h1
  rw [show flipS 28 = 36 by decide]
  go_wp2
  go_ret
  exact ⟨rfl, hb⟩

end Go.Proofs.Ytonlfgldhnkcgaa
