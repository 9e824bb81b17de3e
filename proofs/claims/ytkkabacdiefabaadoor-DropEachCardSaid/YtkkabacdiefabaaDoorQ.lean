/- Plain words of pieces, and walks of the program's. -/
import Derived.Test.YtkkabacdiefabaaDoorU
import Derived.Test.YtkkabacdiefabaaDoorRows
namespace Go.Proofs.YtkkabacdiefabaaDoor
open Go Go.RowKit

def isB (x : Int) : Bool := decide ((1 ≤ x ∧ x ≤ 6) ∨ (9 ≤ x ∧ x ≤ 14))
def colI (x : Int) : Int := if 1 ≤ x ∧ x ≤ 6 then 0 else if 9 ≤ x ∧ x ≤ 14 then 1 else 2
def kndI (x : Int) : Int := if 1 ≤ x ∧ x ≤ 6 then x else if 9 ≤ x ∧ x ≤ 14 then x - 8 else 0
def makeI (c k : Int) : Int := if c ≤ 1 ∧ 1 ≤ k ∧ k ≤ 6 then 8 * c + k else 0
def othI (x : Int) : Int := if 1 ≤ x ∧ x ≤ 6 then x + 8 else if 9 ≤ x ∧ x ≤ 14 then x - 8 else 0
theorem isB_iff (x : Int) : isB x = true ↔ (1 ≤ x ∧ x ≤ 6) ∨ (9 ≤ x ∧ x ≤ 14) := by unfold isB; rw [decide_eq_true_iff]
theorem isB_no (x : Int) : isB x = false ↔ ¬ ((1 ≤ x ∧ x ≤ 6) ∨ (9 ≤ x ∧ x ≤ 14)) := by unfold isB; rw [decide_eq_false_iff_not]
theorem make_is {x : Int} (h0 : 0 ≤ x) : (x ≠ 0 ∧ makeI (x / 8) (x % 8) = x) ↔ isB x = true := by
  rw [isB_iff]
  unfold makeI
  split <;> omega

theorem make_any (c k : Int) (h0 : 0 ≤ c) (h1 : c ≤ 255) (h2 : 0 ≤ k) (h3 : k ≤ 255) (w : World) :
    Calls Tryd.prog 43 #[.int .u8 c, .int .u8 k] w fun e w' => e = .returned (.int .u8 (makeI c k)) ∧ w = w' := by
  have hc : 1 < c ∨ (c ≤ 1 ∧ k < 1) ∨ (c ≤ 1 ∧ 1 ≤ k ∧ 6 < k) ∨ (c ≤ 1 ∧ 1 ≤ k ∧ k ≤ 6) := by omega
  rcases hc with h | ⟨h, h4⟩ | ⟨h, h4, h5⟩ | ⟨h, h4, h5⟩
  · have H := hideIt (show makeI c k = 0 from if_neg (by omega))
    go_enter Tryd.func43, Tryd.ntmps43
    go_wp2
    go_ret
    exact ⟨ret_int H.out.symm, rfl⟩
  · have H := hideIt (show makeI c k = 0 from if_neg (by omega))
    go_enter Tryd.func43, Tryd.ntmps43
    go_wp2
    go_ret
    exact ⟨ret_int H.out.symm, rfl⟩
  · have H := hideIt (show makeI c k = 0 from if_neg (by omega))
    go_enter Tryd.func43, Tryd.ntmps43
    go_wp2
    go_ret
    exact ⟨ret_int H.out.symm, rfl⟩
  · have H := hideIt (show makeI c k = 8 * c + k from if_pos (by omega))
    go_enter Tryd.func43, Tryd.ntmps43
    go_wp2
    go_ret
    exact ⟨ret_int H.out.symm, rfl⟩

theorem is_any (x : Int) (h0 : 0 ≤ x) (h1 : x ≤ 255) (w : World) :
    Calls Tryd.prog 36 #[.int .u8 x] w fun e w' => e = .returned (.bool (isB x)) ∧ w = w' := by
  by_cases hz : x = 0
  · subst hz
    go_enter Tryd.func36, Tryd.ntmps36
    go_wp2
    go_ret
    exact ⟨rfl, rfl⟩
  · have z : (x != 0) = true := by rw [bne, beq_eq_false_iff_ne.2 hz]; rfl
    have e1 : x.tdiv 8 = x / 8 := Int.tdiv_eq_ediv_of_nonneg h0
    have e2 : x.tmod 8 = x % 8 := Int.tmod_eq_emod_of_nonneg h0
    have H : (makeI (x / 8) (x % 8) == x) = isB x := by
      rw [Bool.eq_iff_iff, beq_iff_eq, ← make_is h0]
      exact ⟨fun h => ⟨hz, h⟩, fun h => h.2⟩
    have HH := hideIt H
    clear H hz e1 e2
    go_enter Tryd.func36, Tryd.ntmps36
    go_wp2_with fail
    refine (make_any _ _ (by omega) (by omega) (by omega) (by omega) _).mono ?_
    rintro e w1 ⟨rfl, rfl⟩
    go_wp2
    go_ret
    exact ⟨ret_bool HH.out, rfl⟩




end Go.Proofs.YtkkabacdiefabaaDoor
