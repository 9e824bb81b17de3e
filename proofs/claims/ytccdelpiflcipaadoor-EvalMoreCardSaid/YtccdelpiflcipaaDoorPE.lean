/- Positions that are put on, turned about: their numbers still fit. -/
import Derived.Test.YtccdelpiflcipaaDoorPM
import Derived.Test.YtccdelpiflcipaaDoorPE0
namespace Go.Proofs.YtccdelpiflcipaaDoor
open Go Go.RowKit

theorem PosOk.put {n : Nat → Int} (h : PosOk n) (s x : Int) (h0 : 0 ≤ x) (h1 : x ≤ 255) : PosOk (putN n s x) := by
  unfold putN
  by_cases e : putOk s x = true
  · rw [if_pos e]
    unfold putOk at e
    rw [Bool.and_eq_true, decide_eq_true_iff] at e
    exact h.upd (by rw [kind_board (by omega)]; exact wf_u8_mk h0 h1)
  · rw [if_neg e]; exact h
theorem oth_bd (x : Int) : 0 ≤ othI x ∧ othI x ≤ 255 := by unfold othI; repeat (first | omega | split)
theorem PosOk.mir {n : Nat → Int} (h : PosOk n) : PosOk (mirN n) := by
  intro i hi
  have k : ∀ j, j < 88 → kindAt j = kindAt i → (Lit.int (kindAt i) (n j)).wf = true := fun j hj e => by rw [← e]; exact h j hj
  unfold mirN
  by_cases h1 : 1 ≤ i ∧ i ≤ 64
  · rw [if_pos h1, kind_board h1.2]
    exact wf_u8_mk (oth_bd _).1 (oth_bd _).2
  · rw [if_neg h1]
    by_cases h2 : i = 65
    · rw [if_pos h2]; subst h2; exact wf_u64_mk _
    · rw [if_neg h2]
      have hc : i = 0 ∨ i = 66 ∨ i = 67 ∨ i = 68 ∨ i = 69 ∨ i = 70 ∨ i = 71 ∨ i = 72 ∨ i = 73 ∨ i = 74 ∨ i = 75 ∨ i = 76 ∨ i = 77 ∨ i = 78 ∨ i = 79 ∨ i = 80 ∨ i = 81 ∨ i = 82 ∨ i = 83 ∨ i = 84 ∨ i = 85 ∨ i = 86 ∨ i = 87 := by omega
      rcases hc with rfl | rfl | rfl | rfl | rfl | rfl | rfl | rfl | rfl | rfl | rfl | rfl | rfl | rfl | rfl | rfl | rfl | rfl | rfl | rfl | rfl | rfl | rfl
      case inr.inr.inr.inr.inr.inr.inr.inr.inr.inr.inr.inr.inr.inl =>
        show (Lit.int .u8 (if n 78 = 0 then 1 else if n 78 = 1 then 0 else n 78)).wf = true
        have := h.u8 78 (by decide) rfl
        refine wf_u8_mk ?_ ?_ <;> (split; · omega
                                   · split <;> omega)
      case inr.inr.inr.inr.inr.inr.inr.inr.inr.inr.inr.inr.inr.inr.inr.inr.inr.inr.inl =>
        show (Lit.int .i8 (if 0 ≤ n 83 ∧ n 83 < 64 then flipI (n 83) else n 83)).wf = true
        split
        · rename_i hp
          refine wf_i8_mk ?_ ?_ <;> (unfold flipI; omega)
        · exact h 83 (by decide)
      all_goals exact k _ (by decide) rfl

end Go.Proofs.YtccdelpiflcipaaDoor
