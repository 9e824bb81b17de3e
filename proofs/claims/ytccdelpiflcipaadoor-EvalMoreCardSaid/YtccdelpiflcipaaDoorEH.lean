/- Plain law of EvalMore: a piece more on an empty square. -/
import Derived.Test.YtccdelpiflcipaaDoorEG
namespace Go.Proofs.YtccdelpiflcipaaDoor
open Go Go.RowKit
set_option linter.unusedVariables false

theorem at_more (n : Nat → Int) (s : Nat) (x : Int) (hs : s < 64) (hx : isB x = true) (j : Nat) (hj : j < 64) : atN (upd n (1 + s) x) j = if j = s then x else atN n j := by
  unfold atN
  rw [Int.toNat_natCast]
  by_cases h : j = s
  · subst h
    have hu : upd n (1 + j) x (1 + j) = x := if_pos rfl
    rw [if_pos rfl, hu, if_pos ⟨by omega, by omega, hx⟩]
  · have hu : upd n (1 + s) x (1 + j) = n (1 + j) := if_neg (by omega)
    rw [if_neg h, hu]
theorem rbK_more (n : Nat → Int) (v : Nat) (c : Int) (s : Nat) (x : Int) (hs : s < 64) (hx : isB x = true) (h0 : atN n s = 0) : ∀ j, j ≤ 64 →
    rbK (upd n (1 + s) x) v c j = rbK n v c j + (if s < j ∧ colI x = c then valI c (kndI x) s + (if kndI x = 6 ∧ v = 4 then 200 else 0) else 0)
  | 0, _ => by
    rw [if_neg (fun h => absurd h.1 (Nat.not_lt_zero _)), Int.add_zero]; rfl
  | j + 1, hj => by
    have ih := rbK_more n v c s x hs hx h0 j (by omega)
    unfold rbK
    rw [ih, at_more n s x hs hx j (by omega)]
    have hx0 : x ≠ 0 := by rw [isB_iff] at hx; omega
    generalize hd : (if kndI x = 6 ∧ v = 4 then (200 : Int) else 0) = d
    by_cases h : j = s
    · subst h
      rw [if_pos rfl, if_neg (show ¬ (j < j ∧ colI x = c) by omega), h0, hd]
      rw [if_neg (show ¬ ((0 : Int) ≠ 0 ∧ colI 0 = c) from fun h => h.1 rfl)]
      by_cases hc : colI x = c
      · rw [if_pos ⟨hx0, hc⟩, if_pos ⟨by omega, hc⟩, Int.add_zero]
      · rw [if_neg (fun h => hc h.2), if_neg (fun h => hc h.2)]
    · rw [if_neg h]
      have e : (s < j + 1 ∧ colI x = c) ↔ (s < j ∧ colI x = c) := by omega
      by_cases hc : s < j ∧ colI x = c
      · rw [if_pos hc, if_pos (e.2 hc)]; omega
      · rw [if_neg hc, if_neg (fun hh => hc (e.1 hh))]; omega
/-- What a piece more is worth. -/
def moreI (v : Nat) (x : Int) (s : Nat) : Int := valI (colI x) (kndI x) s + (if kndI x = 6 ∧ v = 4 then 200 else 0)
theorem more_worth (n : Nat → Int) (v c : Nat) (s : Nat) (x : Int) (hv : v < 9) (h6 : v ≠ 6) (h8 : v ≠ 8) (hc : c ≤ 1) (hs : s < 64) (hx : isB x = true) (h0 : atN n s = 0) :
    worthI (upd n (1 + s) x) v c = worthI n v c + (if colI x = c then moreI v x s else 0) := by
  rw [worthI_ref _ v c hv hc, worthI_ref _ v c hv hc, rbK_more n v c s x hs hx h0 64 (Nat.le_refl 64)]
  have e1 : heldI (upd n (1 + s) x) c 6 = heldI n c 6 := heldI_congr _ _ c (fun j hj => if_neg (by omega)) 6 (Nat.le_refl 6)
  have e2 : upd n (1 + s) x (84 + c) = n (84 + c) := if_neg (by omega)
  have et : tailI (upd n (1 + s) x) v c = tailI n v c := by
    unfold tailI
    rw [e1, e2, if_neg h6, if_neg h8, if_neg h6, if_neg h8]
  rw [et]
  unfold moreI
  by_cases hcc : colI x = c
  · rw [if_pos hcc, if_pos ⟨hs, hcc⟩, hcc]; omega
  · rw [if_neg hcc, if_neg (fun h => hcc h.2)]; omega

end Go.Proofs.YtccdelpiflcipaaDoor
