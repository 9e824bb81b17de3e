/- Plain laws of rays, for RaysNone, RaysFlipped, RaysParts: no program here. -/
import Derived.Test.YtnbfgangmkfolaaDoorY4
import Derived.Test.YtnbfgangmkfolaaDoorU3
namespace Go.Proofs.YtnbfgangmkfolaaDoor
open Go

theorem king_cnt_in : ∀ a : Fin 64, 3 ≤ cntB (kingB (a.val : Int)) ∧ cntB (kingB (a.val : Int)) ≤ 8 := by decide +kernel
theorem knight_cnt_in : ∀ a : Fin 64, 2 ≤ cntB (knightB (a.val : Int)) ∧ cntB (knightB (a.val : Int)) ≤ 8 := by decide +kernel
theorem king_dist_in : ∀ a b : Fin 64, hasB (kingB (a.val : Int)) (b.val : Int) = (distI (a.val : Int) (b.val : Int) == 1) := by decide +kernel
theorem knight_dist_in : ∀ a b : Fin 64, hasB (knightB (a.val : Int)) (b.val : Int) = true → distI (a.val : Int) (b.val : Int) = 2 := by decide +kernel
theorem king_flip_in : ∀ a : Fin 64, flipB (kingB (a.val : Int)) = kingB (flipI (a.val : Int)) := by decide +kernel
theorem knight_flip_in : ∀ a : Fin 64, flipB (knightB (a.val : Int)) = knightB (flipI (a.val : Int)) := by decide +kernel
theorem pawn_flip_in : ∀ a : Fin 64, flipB (pawnB 0 (a.val : Int)) = pawnB 1 (flipI (a.val : Int)) := by decide +kernel
theorem ray_flip_in : ∀ a : Fin 64, ∀ d : Fin 8, flipB (rayB (a.val : Int) (d.val : Int)) = rayB (flipI (a.val : Int)) ((12 - (d.val : Int)) % 8) := by decide +kernel
theorem king_cnt (a : Int) (h : 0 ≤ a ∧ a < 64) : 3 ≤ cntB (kingB a) ∧ cntB (kingB a) ≤ 8 := by obtain ⟨x, rfl⟩ := sq h; exact king_cnt_in x
theorem knight_cnt (a : Int) (h : 0 ≤ a ∧ a < 64) : 2 ≤ cntB (knightB a) ∧ cntB (knightB a) ≤ 8 := by obtain ⟨x, rfl⟩ := sq h; exact knight_cnt_in x
theorem king_dist (a : Int) (h : 0 ≤ a ∧ a < 64) (b : Int) : hasB (kingB a) b = (distI a b == 1) := by
  by_cases hb : 0 ≤ b ∧ b < 64
  · obtain ⟨x, rfl⟩ := sq h; obtain ⟨y, rfl⟩ := sq hb; exact king_dist_in x y
  · rw [hasB_out _ hb, show distI a b = -1 from if_neg (fun hh => hb hh.2)]; rfl
theorem knight_dist (a : Int) (h : 0 ≤ a ∧ a < 64) (b : Int) (hn : hasB (knightB a) b = true) : distI a b = 2 := by
  by_cases hb : 0 ≤ b ∧ b < 64
  · obtain ⟨x, rfl⟩ := sq h; obtain ⟨y, rfl⟩ := sq hb; exact knight_dist_in x y hn
  · rw [hasB_out _ hb] at hn; cases hn

end Go.Proofs.YtnbfgangmkfolaaDoor
