/- The rows of letters of a first position of chess960 are that position. -/
import Derived.Test.YtpheapolijhgjaaVZ1
namespace Go.Proofs.Ytpheapolijhgjaa
open Go Go.RowKit
set_option linter.unusedVariables false

theorem ofRow_at (m : Nat → Int) (i : Nat) (s : ByteArray) : ∀ k j, ofRow m i s k j = if 1 + 8 * (7 - i) ≤ j ∧ j < 1 + 8 * (7 - i) + k then ltrI (chI s (j - (1 + 8 * (7 - i)))) else m j
  | 0, j => by
    rw [if_neg (by omega)]; rfl
  | k + 1, j => by
    show upd (ofRow m i s k) (1 + (8 * (7 - i) + k)) (ltrI (chI s k)) j = _
    unfold upd
    by_cases e : j = 1 + (8 * (7 - i) + k)
    · rw [if_pos e, if_pos (by omega), show j - (1 + 8 * (7 - i)) = k by omega]
    · rw [if_neg e, ofRow_at m i s k j]
      by_cases h : 1 + 8 * (7 - i) ≤ j ∧ j < 1 + 8 * (7 - i) + k
      · rw [if_pos h, if_pos (by omega)]
      · rw [if_neg h, if_neg (by omega)]
theorem ch_nums (m : Nat → Int) (f : Nat) (hf : f < 8) (h : 0 ≤ m f ∧ m f ≤ 255) : chI (strOfNums ((List.range 8).map m)) f = m f := by
  unfold chI
  rw [strOfNums_data, List.getD_eq_getElem?_getD, List.getElem?_map, List.getElem?_map, List.getElem?_range hf]
  show ((UInt8.ofNat (m f).toNat).toNat : Int) = m f
  rw [UInt8.toNat_ofNat']
  omega
theorem ch_p : ∀ f : Fin 8, chI ⟨#[112, 112, 112, 112, 112, 112, 112, 112]⟩ f.val = 112 := by decide
theorem ch_P : ∀ f : Fin 8, chI ⟨#[80, 80, 80, 80, 80, 80, 80, 80]⟩ f.val = 80 := by decide
theorem ltr_toL (x : Int) (h : 2 ≤ x ∧ x ≤ 6) : ltrI (toL x) = x ∧ ltrI (toL x + 32) = 8 + x := by
  have : x = 2 ∨ x = 3 ∨ x = 4 ∨ x = 5 ∨ x = 6 := by omega
  rcases this with rfl | rfl | rfl | rfl | rfl <;> decide
theorem lowK_at (q : Nat → Int) : ∀ k f, f < k → lowK q k f = q f + 32
  | 0, f, h => by omega
  | k + 1, f, h => by
    show upd (lowK q k) k (q k + 32) f = _
    unfold upd
    by_cases e : f = k
    · rw [if_pos e, e]
    · rw [if_neg e]; exact lowK_at q k f (by omega)
theorem size_nums (m : Nat → Int) : (strOfNums ((List.range 8).map m)).size = 8 := by rw [strOfNums_size, List.length_map, List.length_range]
theorem of960_at (q : Nat → Int) (j : Nat) : ofK 1 (rows960 q) 8 j =
    if 1 ≤ j ∧ j < 9 then ltrI (chI (strOfNums ((List.range 8).map q)) (j - 1)) else if 9 ≤ j ∧ j < 17 then ltrI (chI ⟨#[80, 80, 80, 80, 80, 80, 80, 80]⟩ (j - 9))
    else if 49 ≤ j ∧ j < 57 then ltrI (chI ⟨#[112, 112, 112, 112, 112, 112, 112, 112]⟩ (j - 49)) else if 57 ≤ j ∧ j < 65 then ltrI (chI (strOfNums ((List.range 8).map (lowK q 8))) (j - 57)) else noneN 1 j := by
  show ofRow (ofRow (ofRow (ofRow (ofRow (ofRow (ofRow (ofRow (noneN 1) 0 (strOfNums ((List.range 8).map (lowK q 8))) (strOfNums ((List.range 8).map (lowK q 8))).size) 1 ⟨#[112, 112, 112, 112, 112, 112, 112, 112]⟩ 8) 2 ⟨#[]⟩ 0) 3 ⟨#[]⟩ 0) 4 ⟨#[]⟩ 0) 5 ⟨#[]⟩ 0) 6 ⟨#[80, 80, 80, 80, 80, 80, 80, 80]⟩ 8) 7 (strOfNums ((List.range 8).map q)) (strOfNums ((List.range 8).map q)).size j = _
  rw [size_nums, size_nums, ofRow_at]
  by_cases h7 : 1 ≤ j ∧ j < 9
  · rw [if_pos (by omega), if_pos h7, show j - (1 + 8 * (7 - 7)) = j - 1 by omega]
  · rw [if_neg (by omega), if_neg h7, ofRow_at]
    by_cases h6 : 9 ≤ j ∧ j < 17
    · rw [if_pos (by omega), if_pos h6, show j - (1 + 8 * (7 - 6)) = j - 9 by omega]
    · rw [if_neg (by omega), if_neg h6, ofRow_at, if_neg (by omega), ofRow_at, if_neg (by omega), ofRow_at, if_neg (by omega), ofRow_at, if_neg (by omega), ofRow_at]
      by_cases h1 : 49 ≤ j ∧ j < 57
      · rw [if_pos (by omega), if_pos h1, show j - (1 + 8 * (7 - 1)) = j - 49 by omega]
      · rw [if_neg (by omega), if_neg h1, ofRow_at]
theorem both_far (v : Nat) (l : Nat → Int) (i : Nat) (h : i = 0 ∨ (64 < i ∧ i < 79) ∨ 82 < i) : ∀ k, k ≤ 8 → bothK v l k i = noneN v i
  | 0, _ => rfl
  | k + 1, hk => by
    have ih := both_far v l i h k (by omega)
    have hm : menK l (bothK v l k) k i = noneN v i := by
      unfold menK upd
      rw [if_neg (by omega), if_neg (by omega), if_neg (by omega), if_neg (by omega)]; exact ih
    unfold bothK
    split
    · unfold rookK upd sideI
      split <;> (rw [if_neg (by omega), if_neg (by omega)]; exact hm)
    · exact hm
theorem of960_eq (n : Nat) (hn : n < 960) : posA (upd (upd (upd (upd (ofK 1 (rows960 (qr (row7 n))) 8) 79 (emp (row6 n) 0)) 80 (emp (row4 n) 0)) 81 (emp (row6 n) 0)) 82 (emp (row4 n) 0)) = posA (start960N n) := by
  obtain ⟨d1, d2, d3, d4⟩ := fd ⟨n, hn⟩
  simp only at d1 d2 d3 d4
  refine pos_congr fun i hi => ?_
  by_cases h82 : i = 82
  · subst h82; exact d4.symm
  by_cases h81 : i = 81
  · subst h81; exact d3.symm
  by_cases h80 : i = 80
  · subst h80; exact d2.symm
  by_cases h79 : i = 79
  · subst h79; exact d1.symm
  have e : upd (upd (upd (upd (ofK 1 (rows960 (qr (row7 n))) 8) 79 (emp (row6 n) 0)) 80 (emp (row4 n) 0)) 81 (emp (row6 n) 0)) 82 (emp (row4 n) 0) i = ofK 1 (rows960 (qr (row7 n))) 8 i := by
    unfold upd
    rw [if_neg h82, if_neg h81, if_neg h80, if_neg h79]
  rw [e, of960_at]
  have hx : ∀ f, f < 8 → 2 ≤ row7 n f ∧ row7 n f ≤ 6 := fun f hf => row7_in ⟨n, hn⟩ ⟨f, hf⟩
  by_cases hb : 1 ≤ i ∧ i ≤ 64
  · rw [show start960N n i = bdN (row7 n) 8 i from both_bd 1 (row7 n) i hb.1 hb.2]
    unfold bdN
    by_cases h1 : 1 ≤ i ∧ i < 9
    · have hq := toL_bd (row7 n (i - 1))
      rw [if_pos h1, if_pos (show 1 ≤ i ∧ i < 1 + 8 by omega), ch_nums _ _ (by omega) (by show 0 ≤ toL _ ∧ toL _ ≤ 255; omega)]
      exact (ltr_toL _ (hx _ (by omega))).1
    · rw [if_neg h1, if_neg (show ¬ (1 ≤ i ∧ i < 1 + 8) by omega)]
      by_cases h2 : 9 ≤ i ∧ i < 17
      · rw [if_pos h2, if_pos (show 9 ≤ i ∧ i < 9 + 8 by omega), ch_P ⟨i - 9, by omega⟩]; rfl
      · rw [if_neg h2, if_neg (show ¬ (9 ≤ i ∧ i < 9 + 8) by omega)]
        by_cases h3 : 49 ≤ i ∧ i < 57
        · rw [if_pos h3, if_pos (show 49 ≤ i ∧ i < 49 + 8 by omega), ch_p ⟨i - 49, by omega⟩]; rfl
        · rw [if_neg h3, if_neg (show ¬ (49 ≤ i ∧ i < 49 + 8) by omega)]
          by_cases h4 : 57 ≤ i ∧ i < 65
          · have hq := toL_bd (row7 n (i - 57))
            rw [if_pos h4, if_pos (show 57 ≤ i ∧ i < 57 + 8 by omega), ch_nums _ _ (by omega) (by rw [lowK_at _ 8 _ (by omega)]; show 0 ≤ toL _ + 32 ∧ toL _ + 32 ≤ 255; omega), lowK_at _ 8 _ (by omega)]
            exact (ltr_toL _ (hx _ (by omega))).2
          · rw [if_neg h4, if_neg (show ¬ (57 ≤ i ∧ i < 57 + 8) by omega)]
            unfold noneN
            rw [if_neg (by omega), if_neg (by omega), if_neg (by omega), if_neg (by omega), if_neg (by omega), if_neg (by omega), if_neg (by omega)]
  · rw [if_neg (by omega), if_neg (by omega), if_neg (by omega), if_neg (by omega)]
    exact (both_far 1 (row7 n) i (by omega) 8 (Nat.le_refl 8)).symm

end Go.Proofs.Ytpheapolijhgjaa
