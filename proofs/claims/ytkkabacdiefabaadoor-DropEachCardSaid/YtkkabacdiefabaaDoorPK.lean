/- Positions: what the walks of positions share. -/
import Derived.Test.YtkkabacdiefabaaDoorP4
namespace Go.Proofs.YtkkabacdiefabaaDoor
open Go Go.RowKit

theorem PosAt.rules {w : World} {g : Nat} {n : Nat → Int} (h : PosAt w g n) : IsPos w g ∧ rowOf w g = posA n := ⟨h.is, h.row⟩
theorem wf_u8 {x : Int} (h : (Lit.int .u8 x).wf = true) : 0 ≤ x ∧ x ≤ 255 := by
  simp [Lit.wf] at h
  have e1 : IntKind.u8.min = 0 := by decide
  have e2 : IntKind.u8.max = 255 := by decide
  omega
theorem kind_board {i : Nat} (h : i ≤ 64) : kindAt i = .u8 := if_pos h
theorem PosOk.u8 {n : Nat → Int} (h : PosOk n) (i : Nat) (hi : i < 88) (hk : kindAt i = .u8) : 0 ≤ n i ∧ n i ≤ 255 := wf_u8 (by have := h i hi; rw [hk] at this; exact this)
theorem PosAt.board {w : World} {g : Nat} {n : Nat → Int} (h : PosAt w g n) (i : Nat) (hi : i ≤ 64) : w.cell? ⟨g, i, none⟩ = some (.int .u8 (n i)) := by
  rw [h.cell i (by omega), kind_board hi]
theorem PosAt.setB {w : World} {g : Nat} {n : Nat → Int} (h : PosAt w g n) (i : Nat) (hi : i ≤ 64) (x : Int) : PosAt (w.setCell ⟨g, i, none⟩ (.int .u8 x)) g (upd n i x) := by
  have := h.set i x
  rw [kind_board hi] at this; exact this
theorem box2 (w : World) (n m : Nat → Int) (X : World) (h : (w.alloc (.cells (posA n) 31)).alloc (.cells (posA m) 31) = X) :
    PosAt X w.heap.size n ∧ PosAt X (w.heap.size + 1) m ∧ Below w.heap.size w X := by
  subst h
  exact ⟨(PosAt.new w n).alloc _, PosAt.new1 w _ m, ((Below.refl _ _).alloc (Nat.le_refl _) _).alloc (by simp) _⟩
theorem box1 (w : World) (n : Nat → Int) (X : World) (h : w.alloc (.cells (posA n) 31) = X) : PosAt X w.heap.size n ∧ Below w.heap.size w X := by
  subst h
  exact ⟨PosAt.new w n, (Below.refl _ _).alloc (Nat.le_refl _) _⟩

end Go.Proofs.YtkkabacdiefabaaDoor
