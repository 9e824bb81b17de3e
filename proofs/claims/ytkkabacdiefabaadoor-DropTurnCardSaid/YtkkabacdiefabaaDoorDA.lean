/- Plain laws of drops: a number in a pocket changed. -/
import Derived.Test.YtkkabacdiefabaaDoorD8
namespace Go.Proofs.YtkkabacdiefabaaDoor
open Go Go.RowKit
set_option linter.unusedVariables false

theorem selN_same (p : Int → Bool) (n m : Nat → Int) (h : ∀ j, j < 64 → n (1 + j) = m (1 + j)) : ∀ k, k ≤ 64 → selN p n k = selN p m k
  | 0, _ => rfl
  | k + 1, hk => by
    have ih := selN_same p n m h k (by omega)
    show (if _ then _ else _) = (if _ then _ else _)
    rw [h k (by omega), ih]
theorem allN_same (n m : Nat → Int) (h : ∀ j, j < 64 → n (1 + j) = m (1 + j)) : allN n = allN m := selN_same (fun _ => true) n m h 64 (Nat.le_refl 64)
theorem hldK_same (n m : Nat → Int) (c : Nat) (h : ∀ j, j < 5 → n (67 + 6 * c + j) = m (67 + 6 * c + j)) : ∀ k, k ≤ 5 → hldK n c k = hldK m c k
  | 0, _ => rfl
  | k + 1, hk => by
    have ih := hldK_same n m c h k (by omega)
    unfold hldK
    rw [ih, h k (by omega)]
theorem hldK_set (n : Nat → Int) (c k : Nat) (y : Int) (k1 : 1 ≤ k) (k5 : k ≤ 5) : hldK (upd n (66 + 6 * c + k) y) c 5 = hldK n c 5 + (y - n (66 + 6 * c + k)) := by
  obtain ⟨i, rfl⟩ : ∃ i, k = i + 1 := ⟨k - 1, by omega⟩
  have e : 66 + 6 * c + (i + 1) = 67 + 6 * c + i := by omega
  rw [e]
  have hu : ∀ j, upd n (67 + 6 * c + i) y (67 + 6 * c + j) = if j = i then y else n (67 + 6 * c + j) := fun j => by
    unfold upd
    by_cases h : j = i
    · rw [if_pos h, if_pos (by omega)]
    · rw [if_neg h, if_neg (by omega)]
  unfold hldK hldK hldK hldK hldK hldK
  rw [hu 0, hu 1, hu 2, hu 3, hu 4]
  have hc : i = 0 ∨ i = 1 ∨ i = 2 ∨ i = 3 ∨ i = 4 := by omega
  rcases hc with rfl | rfl | rfl | rfl | rfl <;> (simp; omega)
theorem hldI_set (n : Nat → Int) (c k : Nat) (y : Int) (hc : c ≤ 1) (k1 : 1 ≤ k) (k5 : k ≤ 5) : hldI (upd n (66 + 6 * c + k) y) c = hldI n c + (y - n (66 + 6 * c + k)) := by
  unfold hldI
  rw [if_pos hc, if_pos hc, hldK_set n c k y k1 k5]
theorem hldI_other (n : Nat → Int) (c k d : Nat) (y : Int) (hc : c ≤ 1) (k5 : k ≤ 5) (hd : d ≤ 1) (h : d ≠ c) : hldI (upd n (66 + 6 * c + k) y) d = hldI n d := by
  unfold hldI
  rw [if_pos hd, if_pos hd]
  exact hldK_same _ _ d (fun j hj => if_neg (by omega)) 5 (Nat.le_refl 5)
theorem menI_set (n : Nat → Int) (c k : Nat) (y : Int) (hc : c ≤ 1) (k1 : 1 ≤ k) (k5 : k ≤ 5) : menI (upd n (66 + 6 * c + k) y) = menI n + (y - n (66 + 6 * c + k)) := by
  unfold menI
  rw [allN_same (upd n (66 + 6 * c + k) y) n (fun j hj => if_neg (by omega))]
  have hcc : c = 0 ∨ c = 1 := by omega
  rcases hcc with rfl | rfl
  · rw [hldI_set n 0 k y (by decide) k1 k5, hldI_other n 0 k 1 y (by decide) k5 (by decide) (by decide)]; omega
  · rw [hldI_set n 1 k y (by decide) k1 k5, hldI_other n 1 k 0 y (by decide) k5 (by decide) (by decide)]; omega
theorem upd_back (n : Nat → Int) (i : Nat) (y : Int) : upd (upd n i y) i (n i) = n := by
  funext j
  unfold upd
  by_cases h : j = i
  · subst h; rw [if_pos rfl]
  · rw [if_neg h, if_neg h]
/-- One more put in. -/
theorem add_more (n : Nat → Int) (c k : Nat) (h : addB n c k = true) : addN n c k = upd n (66 + 6 * c + k) (n (66 + 6 * c + k) + 1) ∧ c ≤ 1 ∧ 1 ≤ k ∧ k ≤ 5 ∧ n (66 + 6 * c + k) < 255 := by
  have hN : addN n c k = upd n (66 + 6 * c + k) (n (66 + 6 * c + k) + 1) := by unfold addN; rw [h]; rfl
  unfold addB at h
  rw [Bool.and_eq_true, fits_iff, decide_eq_true_eq] at h
  exact ⟨hN, h.1.1, h.1.2.1, h.1.2.2, h.2⟩
theorem add_facts (n : Nat → Int) (hn : PosOk n) (c k : Nat) (h : addB n c k = true) :
    eqP (addN n c k) n = false ∧ takB (addN n c k) c k = true ∧ takN (addN n c k) c k = n ∧ hldI (addN n c k) c = hldI n c + 1 ∧ menI (addN n c k) = menI n + 1 := by
  obtain ⟨e, hc, k1, k5, hx⟩ := add_more n c k h
  have hk := kind_pock c k hc (by omega)
  obtain ⟨x0, x1⟩ := hn.u8 (66 + 6 * c + k) (by omega) hk
  have hf : fitsB (c : Int) k = true := (fits_iff c k).2 ⟨hc, k1, k5⟩
  have hu : upd n (66 + 6 * c + k) (n (66 + 6 * c + k) + 1) (66 + 6 * c + k) = n (66 + 6 * c + k) + 1 := if_pos rfl
  rw [e]
  refine ⟨?_, ?_, ?_, ?_, ?_⟩
  · cases h2 : eqP (upd n (66 + 6 * c + k) (n (66 + 6 * c + k) + 1)) n with
    | false => rfl
    | true =>
      have := (eqP_iff _ _).1 h2 (66 + 6 * c + k) (by omega)
      rw [hu] at this; omega
  · unfold takB
    rw [hf, show poIx c k = 66 + 6 * c + k from rfl, hu, beq_eq_false_iff_ne.2 (by omega)]; rfl
  · have hB : takB (upd n (66 + 6 * c + k) (n (66 + 6 * c + k) + 1)) c k = true := by
      unfold takB
      rw [hf, show poIx c k = 66 + 6 * c + k from rfl, hu, beq_eq_false_iff_ne.2 (by omega)]; rfl
    unfold takN
    rw [if_pos hB, show poIx c k = 66 + 6 * c + k from rfl, hu, show n (66 + 6 * c + k) + 1 - 1 = n (66 + 6 * c + k) by omega]
    exact upd_back n _ _
  · rw [hldI_set n c k _ hc k1 k5]; omega
  · rw [menI_set n c k _ hc k1 k5]; omega

end Go.Proofs.YtkkabacdiefabaaDoor
