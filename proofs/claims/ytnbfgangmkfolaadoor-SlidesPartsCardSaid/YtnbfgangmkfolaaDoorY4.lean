/- Plain laws of rays: no program here. -/
import Derived.Test.YtnbfgangmkfolaaDoorY
namespace Go.Proofs.YtnbfgangmkfolaaDoor
open Go

theorem king_turn_in : ∀ a b : Fin 64, hasB (kingB (a.val : Int)) (b.val : Int) = hasB (kingB (b.val : Int)) (a.val : Int) := by decide +kernel
theorem knight_turn_in : ∀ a b : Fin 64, hasB (knightB (a.val : Int)) (b.val : Int) = hasB (knightB (b.val : Int)) (a.val : Int) := by decide +kernel
theorem pawn_turn_in : ∀ a b : Fin 64, hasB (pawnB 0 (a.val : Int)) (b.val : Int) = hasB (pawnB 1 (b.val : Int)) (a.val : Int) := by decide +kernel
theorem bet_turn_in : ∀ a b : Fin 64, betB (a.val : Int) (b.val : Int) = betB (b.val : Int) (a.val : Int) := by decide +kernel
theorem line_turn_in : ∀ a b : Fin 64, lineB (a.val : Int) (b.val : Int) = lineB (b.val : Int) (a.val : Int) := by decide +kernel

theorem sq {s : Int} (h : 0 ≤ s ∧ s < 64) : ∃ k : Fin 64, s = (k.val : Int) := ⟨⟨s.toNat, by omega⟩, by simp; omega⟩
theorem kingA_none {s : Int} (h : ¬ (0 ≤ s ∧ s < 64)) : ∀ k, kingA s k = 0#64
  | 0 => rfl
  | k + 1 => by show kingA s k ||| shiftB (oneB s) k = _; rw [kingA_none h k, oneB_out h, shiftB_zero]; rfl
theorem kingB_none {s : Int} (h : ¬ (0 ≤ s ∧ s < 64)) : kingB s = 0#64 := kingA_none h 8
theorem knightO_none {s : Int} (h : ¬ (0 ≤ s ∧ s < 64)) (d : Int) : knightO s d = 0#64 := by
  unfold knightO; rw [oneB_out h, shiftB_zero, shiftB_zero, shiftB_zero]; split <;> rfl
theorem knightA_none {s : Int} (h : ¬ (0 ≤ s ∧ s < 64)) : ∀ k, knightA s k = 0#64
  | 0 => rfl
  | k + 1 => by show knightA s k ||| knightO s k = _; rw [knightA_none h k, knightO_none h]; rfl
theorem knightB_none {s : Int} (h : ¬ (0 ≤ s ∧ s < 64)) : knightB s = 0#64 := knightA_none h 8
theorem pawnB_none (c : Int) {s : Int} (h : ¬ (0 ≤ s ∧ s < 64)) : pawnB c s = 0#64 := by
  unfold pawnB; rw [oneB_out h, shiftB_zero, shiftB_zero, shiftB_zero, shiftB_zero]; split
  · rfl
  · split <;> rfl
theorem ray_none1 {s : Int} (h : ¬ (0 ≤ s ∧ s < 64)) (d : Int) : rayB s d = 0#64 := rayB_none s d (fun hh => h ⟨hh.1, hh.2.1⟩)
theorem tow_none1 {a : Int} (h : ¬ (0 ≤ a ∧ a < 64)) (b : Int) : towI a b = -1 := tow_no a b (fun j _ => by rw [ray_none1 h]; exact has_zero b)
theorem tow_none2 (a : Int) {b : Int} (h : ¬ (0 ≤ b ∧ b < 64)) : towI a b = -1 := tow_no a b (fun _ _ => hasB_out _ h)
theorem bet_none1 {a : Int} (h : ¬ (0 ≤ a ∧ a < 64)) (b : Int) : betB a b = 0#64 := by unfold betB; rw [tow_none1 h]; rfl
theorem bet_none2 (a : Int) {b : Int} (h : ¬ (0 ≤ b ∧ b < 64)) : betB a b = 0#64 := by unfold betB; rw [tow_none2 a h]; rfl
theorem line_none1 {a : Int} (h : ¬ (0 ≤ a ∧ a < 64)) (b : Int) : lineB a b = 0#64 := by unfold lineB; rw [tow_none1 h]; rfl
theorem line_none2 (a : Int) {b : Int} (h : ¬ (0 ≤ b ∧ b < 64)) : lineB a b = 0#64 := by unfold lineB; rw [tow_none2 a h]; rfl

theorem king_turn (a b : Int) : hasB (kingB b) a = hasB (kingB a) b := by
  by_cases ha : 0 ≤ a ∧ a < 64
  · by_cases hb : 0 ≤ b ∧ b < 64
    · obtain ⟨x, rfl⟩ := sq ha; obtain ⟨y, rfl⟩ := sq hb; exact (king_turn_in x y).symm
    · rw [kingB_none hb, has_zero, hasB_out _ hb]
  · rw [kingB_none ha, has_zero, hasB_out _ ha]
theorem knight_turn (a b : Int) : hasB (knightB b) a = hasB (knightB a) b := by
  by_cases ha : 0 ≤ a ∧ a < 64
  · by_cases hb : 0 ≤ b ∧ b < 64
    · obtain ⟨x, rfl⟩ := sq ha; obtain ⟨y, rfl⟩ := sq hb; exact (knight_turn_in x y).symm
    · rw [knightB_none hb, has_zero, hasB_out _ hb]
  · rw [knightB_none ha, has_zero, hasB_out _ ha]
theorem pawn_turn (a b : Int) : hasB (pawnB 1 b) a = hasB (pawnB 0 a) b := by
  by_cases ha : 0 ≤ a ∧ a < 64
  · by_cases hb : 0 ≤ b ∧ b < 64
    · obtain ⟨x, rfl⟩ := sq ha; obtain ⟨y, rfl⟩ := sq hb; exact (pawn_turn_in x y).symm
    · rw [pawnB_none 1 hb, has_zero, hasB_out _ hb]
  · rw [pawnB_none 0 ha, has_zero, hasB_out _ ha]
theorem bet_turn (a b : Int) : betB b a = betB a b := by
  by_cases ha : 0 ≤ a ∧ a < 64
  · by_cases hb : 0 ≤ b ∧ b < 64
    · obtain ⟨x, rfl⟩ := sq ha; obtain ⟨y, rfl⟩ := sq hb; exact (bet_turn_in x y).symm
    · rw [bet_none1 hb, bet_none2 _ hb]
  · rw [bet_none1 ha, bet_none2 _ ha]
theorem line_turn (a b : Int) : lineB b a = lineB a b := by
  by_cases ha : 0 ≤ a ∧ a < 64
  · by_cases hb : 0 ≤ b ∧ b < 64
    · obtain ⟨x, rfl⟩ := sq ha; obtain ⟨y, rfl⟩ := sq hb; exact (line_turn_in x y).symm
    · rw [line_none1 hb, line_none2 _ hb]
  · rw [line_none1 ha, line_none2 _ ha]

end Go.Proofs.YtnbfgangmkfolaaDoor
