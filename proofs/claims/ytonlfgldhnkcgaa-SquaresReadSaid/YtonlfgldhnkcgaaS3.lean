/- Plain laws of squares: no program here. -/
import Derived.Test.YtonlfgldhnkcgaaS
namespace Go.Proofs.Ytonlfgldhnkcgaa
open Go

theorem read_self (s : Int) (h : 0 ≤ s ∧ s < 64) : readI ⟨(textL s).toArray⟩ = s ∧ readB ⟨(textL s).toArray⟩ = true := by
  obtain ⟨k, rfl⟩ : ∃ k : Nat, s = k := ⟨s.toNat, by omega⟩
  exact read_own ⟨k, by omega⟩
theorem ofFR_self (s : Int) (h : 0 ≤ s ∧ s < 64) : ofFR (s % 8) (s / 8) = s ∧ okI (s % 8) (s / 8) = true := by
  constructor
  · unfold ofFR; rw [if_pos (by omega)]; omega
  · exact decide_eq_true (by omega)
theorem flipS_in (s : Int) (h : 0 ≤ s ∧ s < 64) : flipS s = 8 * (7 - s / 8) + s % 8 := by
  unfold flipS; rw [if_pos h]; unfold flipI; omega
theorem flipS_flip (s : Int) (h : 0 ≤ s ∧ s < 64) : flipS (flipS s) = s := by
  rw [flipS_in s h, flipS_in _ (by omega)]; omega
theorem distI_in (a b : Int) (ha : 0 ≤ a ∧ a < 64) (hb : 0 ≤ b ∧ b < 64) :
    distI a b = max (max (a % 8 - b % 8) (b % 8 - a % 8)) (max (a / 8 - b / 8) (b / 8 - a / 8)) := by
  exact if_pos ⟨ha, hb⟩
theorem distI_out (a b : Int) (h : ¬ ((0 ≤ a ∧ a < 64) ∧ (0 ≤ b ∧ b < 64))) : distI a b = -1 := if_neg h
theorem distI_comm (a b : Int) : distI b a = distI a b := by
  by_cases h : (0 ≤ a ∧ a < 64) ∧ (0 ≤ b ∧ b < 64)
  · rw [distI_in a b h.1 h.2, distI_in b a h.2 h.1]; omega
  · rw [distI_out a b h, distI_out b a (fun hh => h ⟨hh.2, hh.1⟩)]
theorem distI_flip (a b : Int) : distI (flipS a) (flipS b) = distI a b := by
  by_cases h : (0 ≤ a ∧ a < 64) ∧ (0 ≤ b ∧ b < 64)
  · obtain ⟨ha, hb⟩ := h
    rw [flipS_in a ha, flipS_in b hb, distI_in a b ha hb, distI_in _ _ (by omega) (by omega)]
    have e1 : (8 * (7 - a / 8) + a % 8) % 8 = a % 8 := by omega
    have e2 : (8 * (7 - b / 8) + b % 8) % 8 = b % 8 := by omega
    have e3 : (8 * (7 - a / 8) + a % 8) / 8 = 7 - a / 8 := by omega
    have e4 : (8 * (7 - b / 8) + b % 8) / 8 = 7 - b / 8 := by omega
    rw [e1, e2, e3, e4]; omega
  · rw [distI_out a b h]
    by_cases ha : 0 ≤ a ∧ a < 64
    · by_cases hb : 0 ≤ b ∧ b < 64
      · exact absurd ⟨ha, hb⟩ h
      · rw [show flipS b = -1 from if_neg hb]; exact distI_out _ _ (by omega)
    · rw [show flipS a = -1 from if_neg ha]; exact distI_out _ _ (by omega)
theorem distI_le (a b : Int) : -1 ≤ distI a b ∧ distI a b ≤ 7 := by
  by_cases h : (0 ≤ a ∧ a < 64) ∧ (0 ≤ b ∧ b < 64)
  · rw [distI_in a b h.1 h.2]; omega
  · rw [distI_out a b h]; omega
theorem distI_neg (a b : Int) (h : distI a b < 0) : textL a = [] ∨ textL b = [] := by
  by_cases ha : 0 ≤ a ∧ a < 64
  · by_cases hb : 0 ≤ b ∧ b < 64
    · rw [distI_in a b ha hb] at h; omega
    · exact .inr (if_neg hb)
  · exact .inl (if_neg ha)
theorem distI_some (a b : Int) (h : 0 ≤ distI a b) : (0 ≤ a ∧ a < 64) ∧ (0 ≤ b ∧ b < 64) := by
  by_cases hh : (0 ≤ a ∧ a < 64) ∧ (0 ≤ b ∧ b < 64)
  · exact hh
  · rw [distI_out a b hh] at h; omega
theorem distI_zero (a b : Int) (h : 0 ≤ distI a b) : (distI a b = 0 ↔ a = b) := by
  obtain ⟨ha, hb⟩ := distI_some a b h
  rw [distI_in a b ha hb]
  constructor
  · intro hh
    have h1 : a % 8 = b % 8 := by omega
    have h2 : a / 8 = b / 8 := by omega
    omega
  · rintro rfl; omega
theorem distI_way (a b c : Int) (h : 0 ≤ distI a b) : distI b c < 0 ∨ distI a c ≤ distI a b + distI b c := by
  obtain ⟨ha, hb⟩ := distI_some a b h
  by_cases hc : 0 ≤ c ∧ c < 64
  · right
    rw [distI_in a b ha hb, distI_in b c hb hc, distI_in a c ha hc]
    generalize a % 8 = x1, b % 8 = x2, c % 8 = x3, a / 8 = y1, b / 8 = y2, c / 8 = y3
    clear h ha hb hc
    omega
  · left; rw [distI_out b c (fun hh => hc hh.2)]; omega
theorem ofFR_in (f r : Int) (h : okI f r = true) : (0 ≤ ofFR f r ∧ ofFR f r < 64) ∧ fileI (ofFR f r) = f ∧ rankI (ofFR f r) = r ∧ ofFR f r = 8 * r + f := by
  have h1 := of_decide_eq_true h
  have e : ofFR f r = 8 * r + f := if_pos h1
  rw [e]
  refine ⟨by omega, ?_, ?_, rfl⟩
  · unfold fileI; rw [if_pos (by omega)]; omega
  · unfold rankI; rw [if_pos (by omega)]; omega
theorem okI_out (f r : Int) (h : okI f r = false) : f < 0 ∨ 7 < f ∨ r < 0 ∨ 7 < r := by
  have := of_decide_eq_false h; omega
theorem ofFR_out (f r : Int) (h : okI f r = false) : ofFR f r = 0 := if_neg (of_decide_eq_false h)
theorem step_dist (s f r : Int) (h : 0 ≤ s ∧ s < 64) (hf : -1 ≤ f ∧ f ≤ 1) (hr : -1 ≤ r ∧ r ≤ 1) (ho : okI (s % 8 + f) (s / 8 + r) = true) :
    ((f = 0 ∧ r = 0) → distI s (8 * (s / 8 + r) + (s % 8 + f)) = 0) ∧ (¬ (f = 0 ∧ r = 0) → distI s (8 * (s / 8 + r) + (s % 8 + f)) = 1) := by
  have h1 := of_decide_eq_true ho
  rw [distI_in s _ h (by omega)]
  have e1 : (8 * (s / 8 + r) + (s % 8 + f)) % 8 = s % 8 + f := by omega
  have e2 : (8 * (s / 8 + r) + (s % 8 + f)) / 8 = s / 8 + r := by omega
  rw [e1, e2]
  constructor <;> intro _ <;> omega

end Go.Proofs.Ytonlfgldhnkcgaa
