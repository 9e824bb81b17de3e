/- The walk of SlidesFlipped. -/
import Derived.Test.YtnbfgangmkfolaaDoorAw4
import Derived.Test.YtnbfgangmkfolaaDoorS1
import Derived.Test.YtnbfgangmkfolaaDoorB2
namespace Go.Proofs.YtnbfgangmkfolaaDoor
open Go Go.RowKit

set_option maxHeartbeats 1600000 in
theorem slidesFlipped_walk (a0 : Int) (a1 : Int) (_w0 : (Lit.int .i64 a0).wf = true) (w1 : (Lit.int .u64 a1).wf = true) (w : World) (hT : Tab w) :
    Calls Tryd.prog 7 #[.int .i64 a0, .int .u64 a1] w fun e w' => e = .returned (.bool true) ∧ Below w.heap.size w w' := by
  obtain ⟨occ, rfl⟩ := of_wf w1
  have R1 := hideIt (rook_flip a0 occ)
  have R2 := hideIt (bish_flip a0 occ)
  go_enter Tryd.func7, Tryd.ntmps7
  have hb := Below.refl w.heap.size w
  go_wp2_with fail
  refine (awake_any _ hT).mono ?_
  rintro e w1 ⟨rfl, h1⟩
  have hb := hb.trans (h1.mono hb.size)
  have hT := hT.below h1 (Nat.le_refl _)
  clear h1
  go_wp2_with fail
  refine (sFlip_any a0 _).mono ?_
  rintro e w2 ⟨rfl, h1⟩
  have hb := hb.trans (h1.mono hb.size)
  have hT := hT.below h1 (Nat.le_refl _)
  clear h1
  go_wp2_with fail
  refine (srook_any a0 occ rfl _ hT).mono ?_
  rintro e w3 ⟨rfl, h1⟩
  have hb := hb.trans (h1.mono hb.size)
  have hT := hT.below h1 (Nat.le_refl _)
  clear h1
  go_wp2_with fail
  refine (flip_any (rookB a0 occ) rfl _).mono ?_
  rintro e w4 ⟨rfl, rfl⟩
  rw [R1.out]
  go_wp2_with fail
  refine (flip_any occ rfl _).mono ?_
  rintro e w5 ⟨rfl, rfl⟩
  go_wp2_with fail
  refine (srook_any (flipS a0) (flipB occ) rfl _ hT).mono ?_
  rintro e w6 ⟨rfl, h1⟩
  have hb := hb.trans (h1.mono hb.size)
  have hT := hT.below h1 (Nat.le_refl _)
  clear h1
  go_wp2_with fail
  refine (sbish_any a0 occ rfl _ hT).mono ?_
  rintro e w7 ⟨rfl, h1⟩
  have hb := hb.trans (h1.mono hb.size)
  have hT := hT.below h1 (Nat.le_refl _)
  clear h1
  go_wp2_with fail
  refine (flip_any (bishB a0 occ) rfl _).mono ?_
  rintro e w8 ⟨rfl, rfl⟩
  rw [R2.out]
  go_wp2_with fail
  refine (flip_any occ rfl _).mono ?_
  rintro e w9 ⟨rfl, rfl⟩
  go_wp2_with fail
  refine (sbish_any (flipS a0) (flipB occ) rfl _ hT).mono ?_
  rintro e w10 ⟨rfl, h1⟩
  have hb := hb.trans (h1.mono hb.size)
  have hT := hT.below h1 (Nat.le_refl _)
  clear h1
  go_wp2
  go_ret
  exact ⟨rfl, hb⟩

end Go.Proofs.YtnbfgangmkfolaaDoor
