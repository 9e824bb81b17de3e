/- Plain laws of a position turned about, for BoardTurned. -/
import Derived.Test.YtlobmhhilkmfdaaDoorWBoardAt
namespace Go.Proofs.YtlobmhhilkmfdaaDoor
open Go Go.RowKit

theorem pflipI_sq {t : Int} (h : 0 ≤ t ∧ t < 64) : 0 ≤ flipI t ∧ flipI t < 64 := by unfold flipI; omega
theorem pflipI_two (t : Int) : flipI (flipI t) = t := by unfold flipI; omega
theorem pflip_has (b : BitVec 64) {t : Int} (h : 0 ≤ t ∧ t < 64) : hasB (flipB b) t = hasB b (flipI t) := by
  rw [← flip_via, Bool.eq_iff_iff, has_viaList]
  constructor
  · rintro ⟨x, h1, h2, _⟩
    rw [h2, pflipI_two]; exact h1
  · intro h1
    exact ⟨flipI t, h1, (pflipI_two t).symm, h⟩
theorem pflip_two (b : BitVec 64) : flipB (flipB b) = b := by
  apply ext_has; intro k hk
  have h : 0 ≤ (k : Int) ∧ (k : Int) < 64 := by omega
  rw [pflip_has _ h, pflip_has _ (pflipI_sq h), pflipI_two]
theorem oth_is (x : Int) : isB (othI x) = isB x := by
  rw [Bool.eq_iff_iff, isB_iff, isB_iff]; unfold othI; split
  · omega
  · split <;> omega
theorem at_mir (n : Nat → Int) {s : Int} (h : 0 ≤ s ∧ s < 64) : atN (mirN n) s = othI (atN n (flipI s)) := by
  have hf := pflipI_sq h
  unfold atN
  have e : mirN n (1 + s.toNat) = othI (n (1 + (flipI s).toNat)) := by
    unfold mirN
    rw [if_pos (by omega)]
    have e2 : ((1 + s.toNat : Nat) : Int) - 1 = s := by omega
    rw [e2]
  rw [e, oth_is]
  cases hi : isB (n (1 + (flipI s).toNat)) with
  | true => rw [if_pos ⟨h.1, h.2, rfl⟩, if_pos ⟨hf.1, hf.2, rfl⟩]
  | false => rw [if_neg (fun hh => by cases hh.2.2), if_neg (fun hh => by cases hh.2.2)]; rfl
theorem oth1 {x : Int} (h : 1 ≤ x ∧ x ≤ 6) : othI x = x + 8 := if_pos h
theorem oth2 {x : Int} (h : 9 ≤ x ∧ x ≤ 14) : othI x = x - 8 := by unfold othI; rw [if_neg (by omega), if_pos h]
theorem knd1 {x : Int} (h : 1 ≤ x ∧ x ≤ 6) : kndI x = x := if_pos h
theorem knd2 {x : Int} (h : 9 ≤ x ∧ x ≤ 14) : kndI x = x - 8 := by unfold kndI; rw [if_neg (by omega), if_pos h]
theorem col1 {x : Int} (h : 1 ≤ x ∧ x ≤ 6) : colI x = 0 := if_pos h
theorem col2 {x : Int} (h : 9 ≤ x ∧ x ≤ 14) : colI x = 1 := by unfold colI; rw [if_neg (by omega), if_pos h]
theorem want_oth (x k : Int) (hx : x = 0 ∨ isB x = true) : wantB (othI x) 0 k = wantB x 1 k ∧ wantB (othI x) 1 k = wantB x 0 k := by
  rcases hx with rfl | h
  · exact ⟨rfl, rfl⟩
  · rw [isB_iff] at h
    have e1 : kndI (othI x) = kndI x := by
      rcases h with h | h
      · rw [oth1 h, knd1 h, knd2 (by omega)]; omega
      · rw [oth2 h, knd2 h, knd1 (by omega)]
    have e2 : colI (othI x) = 1 - colI x := by
      rcases h with h | h
      · rw [oth1 h, col1 h, col2 (by omega)]; rfl
      · rw [oth2 h, col2 h, col1 (by omega)]; rfl
    have e3 : colI x = 0 ∨ colI x = 1 := by
      rcases h with h | h
      · exact .inl (col1 h)
      · exact .inr (col2 h)
    have e4 : (othI x != 0) = true := by
      rw [bne, beq_eq_false_iff_ne.2]; · rfl
      · unfold othI; rcases h with h | h
        · rw [if_pos h]; omega
        · rw [if_neg (by omega), if_pos h]; omega
    have e5 : (x != 0) = true := by rw [bne, beq_eq_false_iff_ne.2 (by omega)]; rfl
    unfold wantB
    rw [e1, e2, e4, e5]
    rcases e3 with e | e <;> rw [e] <;> exact ⟨rfl, rfl⟩
theorem at_ok2 (n : Nat → Int) (s : Int) : atN n s = 0 ∨ isB (atN n s) = true := by
  unfold atN
  split
  · rename_i h; exact .inr h.2.2
  · exact .inl rfl
theorem turn_of (n : Nat → Int) (k : Int) : ofN (mirN n) 0 k = flipB (ofN n 1 k) ∧ ofN (mirN n) 1 k = flipB (ofN n 0 k) := by
  constructor
  all_goals
    apply ext_has; intro j hj
    have h : 0 ≤ (j : Int) ∧ (j : Int) < 64 := by omega
    rw [pflip_has _ h, has_of, has_of, at_mir n h]
  · exact (want_oth _ k (at_ok2 n _)).1
  · exact (want_oth _ k (at_ok2 n _)).2
theorem turn_all (n : Nat → Int) : allN (mirN n) = flipB (allN n) := by
  apply ext_has; intro j hj
  have h : 0 ≤ (j : Int) ∧ (j : Int) < 64 := by omega
  rw [pflip_has _ h, has_all, has_all, at_mir n h]
  rcases at_ok2 n (flipI j) with e | e
  · rw [e]; rfl
  · rw [isB_pos e, isB_pos (by rw [oth_is]; exact e)]
def cleanN (n : Nat → Int) (k : Nat) : Bool := (List.range k).all fun i => n (1 + i) == 0 || isB (n (1 + i))
theorem clean_succ (n : Nat → Int) (k : Nat) : cleanN n (k + 1) = (cleanN n k && (n (1 + k) == 0 || isB (n (1 + k)))) := by
  unfold cleanN
  rw [List.range_succ, List.all_append]; simp
theorem mir_two (n : Nat → Int) (hn : PosOk n) (hc : cleanN n 64 = true) : posA (mirN (mirN n)) = posA n := by
  apply posA_congr
  intro i hi
  obtain ⟨b, hb⟩ := of_wf (hn 65 (by decide))
  have t0 := wf_u8 (hn 78 (by decide))
  by_cases h1 : 1 ≤ i ∧ i ≤ 64
  · have hf : 0 ≤ flipI ((i : Int) - 1) ∧ flipI ((i : Int) - 1) < 64 := pflipI_sq (by omega)
    have e1 : mirN (mirN n) i = othI (mirN n (1 + (flipI ((i : Int) - 1)).toNat)) := by
      rw [mirN]; exact if_pos h1
    have e2 : mirN n (1 + (flipI ((i : Int) - 1)).toNat) = othI (n i) := by
      rw [mirN, if_pos (by omega)]
      have e3 : ((1 + (flipI ((i : Int) - 1)).toNat : Nat) : Int) - 1 = flipI ((i : Int) - 1) := by omega
      rw [e3, pflipI_two]
      have e4 : 1 + ((i : Int) - 1).toNat = i := by omega
      rw [e4]
    rw [e1, e2]
    have hx : n i = 0 ∨ isB (n i) = true := by
      have h2 := List.all_eq_true.1 hc (i - 1) (List.mem_range.2 (by omega))
      have e5 : 1 + (i - 1) = i := by omega
      rw [e5, Bool.or_eq_true, beq_iff_eq] at h2
      exact h2
    rcases hx with h | h
    · rw [h]; rfl
    · rw [isB_iff] at h
      rcases h with h | h
      · rw [oth1 h, oth2 (by omega)]; omega
      · rw [oth2 h, oth1 (by omega)]; omega
  · have hcs : i = 0 ∨ i = 65 ∨ i = 66 ∨ i = 67 ∨ i = 68 ∨ i = 69 ∨ i = 70 ∨ i = 71 ∨ i = 72 ∨ i = 73 ∨ i = 74 ∨ i = 75 ∨ i = 76 ∨ i = 77 ∨ i = 78 ∨ i = 79 ∨ i = 80 ∨ i = 81 ∨ i = 82 ∨ i = 83 ∨ i = 84 ∨ i = 85 ∨ i = 86 ∨ i = 87 := by omega
    rcases hcs with rfl | rfl | rfl | rfl | rfl | rfl | rfl | rfl | rfl | rfl | rfl | rfl | rfl | rfl | rfl | rfl | rfl | rfl | rfl | rfl | rfl | rfl | rfl | rfl
    all_goals first
      | rfl
      | (show u (flipB (bitsOf (u (flipB (bitsOf (n 65)))))) = n 65; rw [hb, bits_u, bits_u, pflip_two]; done)
      | (show (if (if n 78 = 0 then 1 else if n 78 = 1 then 0 else n 78) = 0 then 1 else if (if n 78 = 0 then 1 else if n 78 = 1 then 0 else n 78) = 1 then 0 else (if n 78 = 0 then 1 else if n 78 = 1 then 0 else n 78)) = n 78
         by_cases h0 : n 78 = 0
         · rw [if_pos h0, if_neg (by decide), if_pos rfl]; omega
         · rw [if_neg h0]
           by_cases h1 : n 78 = 1
           · rw [if_pos h1, if_pos rfl]; omega
           · rw [if_neg h1, if_neg h0, if_neg h1])
      | (show (if 0 ≤ (if 0 ≤ n 83 ∧ n 83 < 64 then flipI (n 83) else n 83) ∧ (if 0 ≤ n 83 ∧ n 83 < 64 then flipI (n 83) else n 83) < 64 then flipI (if 0 ≤ n 83 ∧ n 83 < 64 then flipI (n 83) else n 83) else (if 0 ≤ n 83 ∧ n 83 < 64 then flipI (n 83) else n 83)) = n 83
         by_cases h0 : 0 ≤ n 83 ∧ n 83 < 64
         · rw [if_pos h0, if_pos (pflipI_sq h0), pflipI_two]
         · rw [if_neg h0, if_neg h0])

end Go.Proofs.YtlobmhhilkmfdaaDoor
