/- Plain laws of rays, for RaysFlipped and RaysParts: no program here. -/
import Derived.Test.YtnbfgangmkfolaaDoorY5
namespace Go.Proofs.YtnbfgangmkfolaaDoor
open Go

theorem bet_flip_in : ∀ a b : Fin 64, flipB (betB (a.val : Int) (b.val : Int)) = betB (flipI (a.val : Int)) (flipI (b.val : Int)) := by decide +kernel
theorem line_flip_in : ∀ a b : Fin 64, flipB (lineB (a.val : Int) (b.val : Int)) = lineB (flipI (a.val : Int)) (flipI (b.val : Int)) := by decide +kernel
theorem flipS_sq {a : Int} (h : 0 ≤ a ∧ a < 64) : flipS a = flipI a := if_pos h
theorem flipS_none {a : Int} (h : ¬ (0 ≤ a ∧ a < 64)) : flipS a = -1 := if_neg h
theorem out1 : ¬ (0 ≤ (-1 : Int) ∧ (-1 : Int) < 64) := by omega
theorem flipB_zero : flipB 0#64 = 0#64 := rfl
theorem king_flip (a : Int) : flipB (kingB a) = kingB (flipS a) := by
  by_cases ha : 0 ≤ a ∧ a < 64
  · rw [flipS_sq ha]; obtain ⟨x, rfl⟩ := sq ha; exact king_flip_in x
  · rw [flipS_none ha, kingB_none ha, kingB_none out1]; rfl
theorem knight_flip (a : Int) : flipB (knightB a) = knightB (flipS a) := by
  by_cases ha : 0 ≤ a ∧ a < 64
  · rw [flipS_sq ha]; obtain ⟨x, rfl⟩ := sq ha; exact knight_flip_in x
  · rw [flipS_none ha, knightB_none ha, knightB_none out1]; rfl
theorem pawn_flip (a : Int) : flipB (pawnB 0 a) = pawnB 1 (flipS a) := by
  by_cases ha : 0 ≤ a ∧ a < 64
  · rw [flipS_sq ha]; obtain ⟨x, rfl⟩ := sq ha; exact pawn_flip_in x
  · rw [flipS_none ha, pawnB_none 0 ha, pawnB_none 1 out1]; rfl
theorem ray_flip (a d : Int) (h0 : 0 ≤ d) (h1 : d < 8) : flipB (rayB a d) = rayB (flipS a) ((12 - d) % 8) := by
  by_cases ha : 0 ≤ a ∧ a < 64
  · rw [flipS_sq ha]; obtain ⟨x, rfl⟩ := sq ha
    obtain ⟨j, rfl⟩ : ∃ j : Fin 8, d = (j.val : Int) := ⟨⟨d.toNat, by omega⟩, by simp; omega⟩
    exact ray_flip_in x j
  · rw [flipS_none ha, ray_none1 ha, ray_none1 out1]; rfl
theorem bet_flip (a b : Int) : flipB (betB a b) = betB (flipS a) (flipS b) := by
  by_cases ha : 0 ≤ a ∧ a < 64
  · by_cases hb : 0 ≤ b ∧ b < 64
    · rw [flipS_sq ha, flipS_sq hb]; obtain ⟨x, rfl⟩ := sq ha; obtain ⟨y, rfl⟩ := sq hb; exact bet_flip_in x y
    · rw [flipS_none hb, bet_none2 _ hb, bet_none2 _ out1]; rfl
  · rw [flipS_none ha, bet_none1 ha, bet_none1 out1]; rfl
theorem line_flip (a b : Int) : flipB (lineB a b) = lineB (flipS a) (flipS b) := by
  by_cases ha : 0 ≤ a ∧ a < 64
  · by_cases hb : 0 ≤ b ∧ b < 64
    · rw [flipS_sq ha, flipS_sq hb]; obtain ⟨x, rfl⟩ := sq ha; obtain ⟨y, rfl⟩ := sq hb; exact line_flip_in x y
    · rw [flipS_none hb, line_none2 _ hb, line_none2 _ out1]; rfl
  · rw [flipS_none ha, line_none1 ha, line_none1 out1]; rfl

def allA (s : Int) : Nat → BitVec 64
  | 0 => 0#64
  | k + 1 => allA s k ||| rayB s k
theorem allA_none {s : Int} (h : ¬ (0 ≤ s ∧ s < 64)) : ∀ k, allA s k = 0#64
  | 0 => rfl
  | k + 1 => by show allA s k ||| rayB s k = _; rw [allA_none h k, ray_none1 h]; rfl
theorem all_apart_in : ∀ s : Fin 64, ∀ d : Fin 8, allA (s.val : Int) d.val &&& rayB (s.val : Int) (d.val : Int) = 0#64 := by decide +kernel
theorem ray_own_in : ∀ s : Fin 64, ∀ d : Fin 8, rayB (s.val : Int) (d.val : Int) = shiftB (rayB (s.val : Int) (d.val : Int)) (d.val : Int) ||| shiftB (oneB (s.val : Int)) (d.val : Int) := by decide +kernel
theorem all_line_in : ∀ a b : Fin 64, hasB (allA (a.val : Int) 8) (b.val : Int) = !(lineB (a.val : Int) (b.val : Int) == 0#64) := by decide +kernel
theorem all_knight_in : ∀ a : Fin 64, allA (a.val : Int) 8 &&& knightB (a.val : Int) = 0#64 := by decide +kernel
theorem all_apart (s : Int) (k : Nat) (hk : k < 8) : allA s k &&& rayB s k = 0#64 := by
  by_cases hs : 0 ≤ s ∧ s < 64
  · obtain ⟨x, rfl⟩ := sq hs; exact all_apart_in x ⟨k, hk⟩
  · rw [ray_none1 hs, BitVec.and_zero]
theorem ray_own (s : Int) (k : Nat) (hk : k < 8) : shiftB (rayB s k) k ||| shiftB (oneB s) k = rayB s k := by
  by_cases hs : 0 ≤ s ∧ s < 64
  · obtain ⟨x, rfl⟩ := sq hs; exact (ray_own_in x ⟨k, hk⟩).symm
  · rw [ray_none1 hs, oneB_out hs, shiftB_zero]; rfl
theorem all_line (a b : Int) : hasB (allA a 8) b = !(lineB a b == 0#64) := by
  by_cases ha : 0 ≤ a ∧ a < 64
  · by_cases hb : 0 ≤ b ∧ b < 64
    · obtain ⟨x, rfl⟩ := sq ha; obtain ⟨y, rfl⟩ := sq hb; exact all_line_in x y
    · rw [hasB_out _ hb, line_none2 _ hb]; rfl
  · rw [allA_none ha, has_zero, line_none1 ha]; rfl
theorem all_knight (a : Int) : allA a 8 &&& knightB a = 0#64 := by
  by_cases ha : 0 ≤ a ∧ a < 64
  · obtain ⟨x, rfl⟩ := sq ha; exact all_knight_in x
  · rw [allA_none ha, BitVec.zero_and]

end Go.Proofs.YtnbfgangmkfolaaDoor
