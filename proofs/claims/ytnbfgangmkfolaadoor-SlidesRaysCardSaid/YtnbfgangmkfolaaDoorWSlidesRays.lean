/- The walk of SlidesRays. -/
import Derived.Test.YtnbfgangmkfolaaDoorAw4
namespace Go.Proofs.YtnbfgangmkfolaaDoor
open Go Go.RowKit

set_option maxHeartbeats 1600000 in
theorem slidesRays_walk (a0 : Int) (a1 : Int) (a2 : Int) (_w0 : (Lit.int .i64 a0).wf = true) (_w1 : (Lit.int .i64 a1).wf = true) (w2 : (Lit.int .u64 a2).wf = true) (w : World) (hT : Tab w) :
    Calls Tryd.prog 6 #[.int .i64 a0, .int .i64 a1, .int .u64 a2] w fun e w' => e = .returned (.bool true) ∧ Below w.heap.size w w' := by
  obtain ⟨occ, rfl⟩ := of_wf w2
  have R1 := hideIt (rays1 a0 a1)
  have R2 := hideIt (rays2 a0 occ)
  have R3 := hideIt (rays3 a0)
  have R4 := dir_sub a0 a1 occ
  go_enter Tryd.func6, Tryd.ntmps6
  have hb := Below.refl w.heap.size w
  go_wp2_with fail
  refine (awake_any _ hT).mono ?_
  rintro e w1 ⟨rfl, h1⟩
  have hb := hb.trans (h1.mono hb.size)
  have hT := hT.below h1 (Nat.le_refl _)
  clear h1
  go_wp2_with fail
  refine (king_any a0 _).mono ?_
  rintro e w2 ⟨rfl, h1⟩
  have hb := hb.trans (h1.mono hb.size)
  have hT := hT.below h1 (Nat.le_refl _)
  clear h1
  go_wp2_with fail
  refine (dir_any a0 a1 0#64 rfl _ hT).mono ?_
  rintro e w3 ⟨rfl, h1⟩
  have hb := hb.trans (h1.mono hb.size)
  have hT := hT.below h1 (Nat.le_refl _)
  clear h1
  rw [R1.out]
  go_wp2_with fail
  refine (ray_any a0 a1 _).mono ?_
  rintro e w4 ⟨rfl, h1⟩
  have hb := hb.trans (h1.mono hb.size)
  have hT := hT.below h1 (Nat.le_refl _)
  clear h1
  go_wp2_with fail
  refine (squeen_any a0 (occ ||| kingB a0) rfl _ hT).mono ?_
  rintro e w5 ⟨rfl, h1⟩
  have hb := hb.trans (h1.mono hb.size)
  have hT := hT.below h1 (Nat.le_refl _)
  clear h1
  rw [R2.out]
  go_wp2_with fail
  refine (squeen_any a0 18446744073709551615#64 rfl _ hT).mono ?_
  rintro e w6 ⟨rfl, h1⟩
  have hb := hb.trans (h1.mono hb.size)
  have hT := hT.below h1 (Nat.le_refl _)
  clear h1
  rw [R3.out]
  go_wp2_with fail
  refine (dir_any a0 a1 occ rfl _ hT).mono ?_
  rintro e w7 ⟨rfl, h1⟩
  have hb := hb.trans (h1.mono hb.size)
  have hT := hT.below h1 (Nat.le_refl _)
  clear h1
  go_wp2_with fail
  refine (ray_any a0 a1 _).mono ?_
  rintro e w8 ⟨rfl, h1⟩
  have hb := hb.trans (h1.mono hb.size)
  have hT := hT.below h1 (Nat.le_refl _)
  clear h1
  go_wp2
  go_ret
  exact ⟨rfl, hb⟩

end Go.Proofs.YtnbfgangmkfolaaDoor
