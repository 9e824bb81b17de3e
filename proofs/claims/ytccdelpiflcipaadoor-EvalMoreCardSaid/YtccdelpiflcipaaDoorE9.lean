/- The reference's Side: the sums. -/
import Derived.Test.YtccdelpiflcipaaDoorE5a
import Derived.Test.YtccdelpiflcipaaDoorPF
namespace Go.Proofs.YtccdelpiflcipaaDoor
open Go Go.RowKit
set_option linter.unusedVariables false

/-- The document's sum, square by square, with its 200 for a king of Antichess. -/
def rbK (n : Nat → Int) (v : Nat) (c : Int) : Nat → Int
  | 0 => 0
  | j + 1 => rbK n v c j + (if atN n j ≠ 0 ∧ colI (atN n j) = c then valI c (kndI (atN n j)) j + (if kndI (atN n j) = 6 ∧ v = 4 then 200 else 0) else 0)
theorem rbK_no (n : Nat → Int) (v : Nat) (c : Int) (j : Nat) (h : ¬ (atN n j ≠ 0 ∧ colI (atN n j) = c)) : rbK n v c (j + 1) = rbK n v c j := by
  show _ + (if _ then _ else _) = _
  rw [if_neg h, Int.add_zero]
theorem rbK_yes (n : Nat → Int) (v : Nat) (c : Int) (j : Nat) (h : atN n j ≠ 0 ∧ colI (atN n j) = c) : rbK n v c (j + 1) = rbK n v c j + (valI c (kndI (atN n j)) j + (if kndI (atN n j) = 6 ∧ v = 4 then 200 else 0)) := by
  show _ + (if _ then _ else _) = _
  rw [if_pos h]
theorem rbK_bd (n : Nat → Int) (v : Nat) (c : Int) : ∀ j : Nat, j ≤ 64 → -12 * (j : Int) ≤ rbK n v c j ∧ rbK n v c j ≤ 1142 * (j : Int)
  | 0, _ => ⟨Int.le_refl 0, Int.le_refl 0⟩
  | j + 1, hj => by
    obtain ⟨h1, h2⟩ := rbK_bd n v c j (by omega)
    obtain ⟨h3, h4⟩ := val_bd c (kndI (atN n j)) j (by omega)
    unfold rbK
    split
    · split <;> omega
    · omega
theorem cnt_at (n : Nat → Int) (c : Int) (j : Nat) (hj : j < 64) : (listN (ofN n c 6) (j + 1)).length = (listN (ofN n c 6) j).length + (if atN n j ≠ 0 ∧ colI (atN n j) = c ∧ kndI (atN n j) = 6 then 1 else 0) := by
  have hb := hasB_nat (ofN n c 6) j (by omega)
  rw [has_ofN n c 6 j hj (by decide)] at hb
  have ha : atN n (j : Int) = if isB (n (1 + j)) = true then n (1 + j) else 0 := by
    unfold atN
    rw [Int.toNat_natCast]
    by_cases h : isB (n (1 + j)) = true
    · rw [if_pos ⟨by omega, by omega, h⟩, if_pos h]
    · rw [if_neg (fun hh => h hh.2.2), if_neg h]
  cases h : (ofN n c 6).getLsbD j with
  | true =>
    rw [h] at hb
    rw [Bool.and_eq_true, Bool.and_eq_true, beq_iff_eq, beq_iff_eq] at hb
    rw [ha, if_pos hb.1, listN_succ_yes _ _ h, List.length_append, if_pos ⟨by have := hb.1; rw [isB_iff] at this; omega, hb.2⟩]; rfl
  | false =>
    rw [h] at hb
    rw [listN_succ_no _ _ h, ha]
    by_cases hi : isB (n (1 + j)) = true
    · rw [if_pos hi, if_neg (fun hh => by rw [hi, beq_iff_eq.2 hh.2.1, beq_iff_eq.2 hh.2.2] at hb; cases hb), Nat.add_zero]
    · rw [if_neg hi, if_neg (fun hh => hh.1 rfl), Nat.add_zero]
theorem rbK_cnt (n : Nat → Int) (v : Nat) (c : Int) : ∀ j, j ≤ 64 → rbK n v c j = baseK n c j + (if v = 4 then 200 * ((listN (ofN n c 6) j).length : Int) else 0)
  | 0, _ => by
    show (0 : Int) = 0 + (if v = 4 then 200 * (((listN (ofN n c 6) 0).length : Nat) : Int) else 0)
    split
    · rfl
    · rfl
  | j + 1, hj => by
    have ih := rbK_cnt n v c j (by omega)
    have hc := cnt_at n c j (by omega)
    rw [hc]
    generalize (listN (ofN n c 6) j).length = m at ih ⊢
    unfold rbK baseK
    rw [ih]
    by_cases h : atN n j ≠ 0 ∧ colI (atN n j) = c
    · by_cases hk : kndI (atN n j) = 6
      · by_cases hv : v = 4
        · simp only [if_pos h, if_pos hv, if_pos (show atN n j ≠ 0 ∧ colI (atN n j) = c ∧ kndI (atN n j) = 6 from ⟨h.1, h.2, hk⟩), if_pos (show kndI (atN n j) = 6 ∧ v = 4 from ⟨hk, hv⟩)]; omega
        · simp only [if_pos h, if_neg hv, if_neg (show ¬ (kndI (atN n j) = 6 ∧ v = 4) from fun hh => hv hh.2)]; omega
      · simp only [if_pos h, if_neg (show ¬ (kndI (atN n j) = 6 ∧ v = 4) from fun hh => hk hh.1), if_neg (show ¬ (atN n j ≠ 0 ∧ colI (atN n j) = c ∧ kndI (atN n j) = 6) from fun hh => hk hh.2.2)]; split <;> omega
    · simp only [if_neg h, if_neg (show ¬ (atN n j ≠ 0 ∧ colI (atN n j) = c ∧ kndI (atN n j) = 6) from fun hh => h ⟨hh.1, hh.2.1⟩)]; split <;> omega
theorem at_okE (n : Nat → Int) (s : Int) : atN n s = 0 ∨ isB (atN n s) = true := by
  unfold atN
  split
  · rename_i h; exact Or.inr h.2.2
  · exact Or.inl rfl
theorem rank_k (k : Nat) (h : k < 64) : rankI (k : Int) = (k : Int) / 8 := by unfold rankI; split <;> omega
/-- What the variant adds behind the loop. -/
def tailI (n : Nat → Int) (v c : Nat) : Int := if v = 2 then heldI n c 6 else if v = 5 then 150 * n (84 + c) else if v = 6 then kingI n c (fun s => -30 * sqI s) else if v = 8 then kingI n c (fun s => 60 * (s / 8)) else 0
theorem worthI_ref (n : Nat → Int) (v c : Nat) (hv : v < 9) (hc : c ≤ 1) : worthI n v c = rbK n v c 64 + tailI n v c := by
  have hk : knownB v c = true := by unfold knownB; rw [decide_eq_true hv, decide_eq_true hc]; rfl
  unfold worthI
  rw [if_pos hk, rbK_cnt n v c 64 (Nat.le_refl 64)]
  have hl : (listN (ofN n c 6) 64).length = cntB (ofN n c 6) := by unfold cntB listB; rw [List.length_map]
  rw [hl]
  have hcs : v = 0 ∨ v = 1 ∨ v = 2 ∨ v = 3 ∨ v = 4 ∨ v = 5 ∨ v = 6 ∨ v = 7 ∨ v = 8 := by omega
  unfold tailI
  rcases hcs with rfl | rfl | rfl | rfl | rfl | rfl | rfl | rfl | rfl <;> (simp [exS, exV, exI])

end Go.Proofs.YtccdelpiflcipaaDoor
