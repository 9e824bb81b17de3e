/- Plain laws of DropEach. -/
import Derived.Test.YtkkabacdiefabaaDoorD6
import Derived.Test.YtkkabacdiefabaaDoorD9
namespace Go.Proofs.YtkkabacdiefabaaDoor
open Go Go.RowKit
set_option linter.unusedVariables false

def Clean (n : Nat → Int) : Prop := ∀ s, s < 64 → n (1 + s) = 0 ∨ isB (n (1 + s)) = true
def empC (n : Nat → Int) : Nat → Nat
  | 0 => 0
  | j + 1 => empC n j + (if n (1 + j) = 0 then 1 else 0)
def midC (n : Nat → Int) : Nat → Nat
  | 0 => 0
  | j + 1 => midC n j + (if n (1 + j) = 0 ∧ 8 ≤ j ∧ j < 56 then 1 else 0)
theorem empC_le (n : Nat → Int) : ∀ j, empC n j ≤ j
  | 0 => Nat.le_refl 0
  | j + 1 => by have := empC_le n j; unfold empC; split <;> omega
theorem midC_le (n : Nat → Int) : ∀ j, midC n j ≤ j
  | 0 => Nat.le_refl 0
  | j + 1 => by have := midC_le n j; unfold midC; split <;> omega
theorem zero_not {x : Int} (h : x = 0 ∨ isB x = true) : isB x = false ↔ x = 0 := by
  constructor
  · intro h2
    rcases h with h | h
    · exact h
    · rw [h2] at h; cases h
  · intro h2; subst h2; rfl
theorem emp_len (n : Nat → Int) (hc : Clean n) (k : Nat) (hk : k ≠ 0) : ∀ j, j ≤ 64 → (listN (whB n (k + 1)) j).length = empC n j
  | 0, _ => rfl
  | j + 1, hj => by
    have ih := emp_len n hc k hk j (by omega)
    have hb := wh_bit n k j (by omega)
    rw [decide_eq_false hk, Bool.false_and, Bool.not_false, Bool.and_true] at hb
    have hz := zero_not (hc j (by omega))
    unfold empC
    by_cases h : n (1 + j) = 0
    · rw [hz.2 h] at hb
      rw [listN_succ_yes _ _ hb, List.length_append, ih, if_pos h]; rfl
    · have h2 : isB (n (1 + j)) = true := by
        cases h3 : isB (n (1 + j)) with
        | true => rfl
        | false => exact absurd (hz.1 h3) h
      rw [h2] at hb
      rw [listN_succ_no _ _ hb, ih, if_neg h, Nat.add_zero]
theorem mid_len (n : Nat → Int) (hc : Clean n) : ∀ j, j ≤ 64 → (listN (whB n 1) j).length = midC n j
  | 0, _ => rfl
  | j + 1, hj => by
    have ih := mid_len n hc j (by omega)
    have hb := wh_bit n 0 j (by omega)
    rw [decide_eq_true rfl, Bool.true_and] at hb
    have hz := zero_not (hc j (by omega))
    unfold midC
    by_cases h : n (1 + j) = 0 ∧ 8 ≤ j ∧ j < 56
    · rw [hz.2 h.1, decide_eq_false (by omega), decide_eq_false (by omega)] at hb
      rw [listN_succ_yes _ _ hb, List.length_append, ih, if_pos h]; rfl
    · have h2 : (whB n (0 + 1)).getLsbD j = false := by
        rw [hb]
        cases h3 : isB (n (1 + j)) with
        | true => rfl
        | false =>
          have h4 := hz.1 h3
          by_cases h8 : j < 8
          · rw [decide_eq_true h8]; rfl
          · have h55 : 55 < j := by omega
            rw [decide_eq_true h55, Bool.or_true]; rfl
      rw [listN_succ_no _ _ h2, ih, if_neg h, Nat.add_zero]
def wantC (n : Nat → Int) (t : Nat) : Nat → Nat
  | 0 => 0
  | j + 1 => wantC n t j + (if n (67 + 6 * t + j) = 0 then 0 else if j = 0 then midC n 64 else empC n 64)
theorem want_len (n : Nat → Int) (hc : Clean n) (t : Nat) : ∀ j, (dropK n t j).length = wantC n t j
  | 0 => rfl
  | j + 1 => by
    have ih := want_len n hc t j
    unfold dropK wantC
    rw [List.length_append, ih]
    by_cases h : n (67 + 6 * t + j) = 0
    · rw [if_pos h, if_pos h]; rfl
    · rw [if_neg h, if_neg h, List.length_map]
      by_cases h0 : j = 0
      · subst h0
        rw [if_pos rfl, ← mid_len n hc 64 (Nat.le_refl 64)]
        unfold listB; rw [List.length_map]
      · rw [if_neg h0, ← emp_len n hc j h0 64 (Nat.le_refl 64)]
        unfold listB; rw [List.length_map]
theorem wantC_le (n : Nat → Int) (t : Nat) : ∀ j, wantC n t j ≤ 64 * j
  | 0 => Nat.le_refl 0
  | j + 1 => by
    have h1 := wantC_le n t j
    have h2 := empC_le n 64
    have h3 := midC_le n 64
    unfold wantC
    split
    · omega
    · split <;> omega
/-- Each drop. -/
theorem mem_drop (n : Nat → Int) (hc : Clean n) (t : Nat) : ∀ j, j ≤ 5 → ∀ m ∈ dropK n t j, ∃ s d : Nat, m = dmv s d ∧ s < 64 ∧ 1 ≤ d ∧ d ≤ j ∧ n (66 + 6 * t + d) ≠ 0 ∧ n (1 + s) = 0
  | 0, _ => fun m hm => by cases hm
  | j + 1, hj => fun m hm => by
    unfold dropK at hm
    rcases List.mem_append.1 hm with h | h
    · obtain ⟨s, d, h1, h2, h3, h4, h5⟩ := mem_drop n hc t j (by omega) m h
      exact ⟨s, d, h1, h2, h3, by omega, h5⟩
    · split at h
      · cases h
      · rename_i hp
        obtain ⟨s, hs, rfl⟩ := List.mem_map.1 h
        have hm := (mem_listB _ s).1 hs
        have hb : 0 ≤ s ∧ s < 64 := by
          by_cases h : 0 ≤ s ∧ s < 64
          · exact h
          · rw [hasB_out _ h] at hm; cases hm
        obtain ⟨i, rfl⟩ : ∃ i : Nat, s = i := ⟨s.toNat, by omega⟩
        rw [hasB_nat _ i (by omega), wh_bit n j i (by omega), Bool.and_eq_true] at hm
        have hz := (zero_not (hc i (by omega))).1 (by have := hm.1; simpa using this)
        refine ⟨i, j + 1, rfl, by omega, by omega, Nat.le_refl _, ?_, hz⟩
        rw [show 66 + 6 * t + (j + 1) = 67 + 6 * t + j by omega]; exact hp
def ltM (a b : Mv) : Prop := a.d < b.d ∨ (a.d = b.d ∧ a.t < b.t)
theorem listN_sorted (b : BitVec 64) (j : Nat) : (listN b j).Pairwise (· < ·) := by
  unfold listN
  exact List.Pairwise.filter _ List.pairwise_lt_range
theorem drop_sorted (n : Nat → Int) (hc : Clean n) (t : Nat) : ∀ j, j ≤ 5 → (dropK n t j).Pairwise ltM
  | 0, _ => List.Pairwise.nil
  | j + 1, hj => by
    have ih := drop_sorted n hc t j (by omega)
    unfold dropK
    rw [List.pairwise_append]
    refine ⟨ih, ?_, ?_⟩
    · split
      · exact List.Pairwise.nil
      · unfold listB
        rw [List.map_map, List.pairwise_map]
        refine (listN_sorted _ 64).imp ?_
        intro a b hab
        right
        exact ⟨rfl, by show (a : Int) < (b : Int); omega⟩
    · intro a ha b hb
      obtain ⟨s, d, rfl, _, _, h4, _⟩ := mem_drop n hc t j (by omega) a ha
      split at hb
      · cases hb
      · obtain ⟨s2, _, rfl⟩ := List.mem_map.1 hb
        left
        show (d : Int) < (j : Int) + 1
        omega

end Go.Proofs.YtkkabacdiefabaaDoor
