/- Walks of the reference of bits: Step. Lines alike written by gen_r3.py. -/
import Derived.Test.YtnbfgangmkfolaaDoorR2
namespace Go.Proofs.YtnbfgangmkfolaaDoor
open Go Go.RowKit

set_option maxHeartbeats 1000000 in
theorem rstep_0 (s : Int) (h0 : 0 ≤ s) (h1 : s < 64) (w : World) :
    Calls Tryd.prog 53 #[.int .i64 s, .int .i64 0] w fun e w' => e = .returned (.int .i64 (stepI s 0)) ∧ Below w.heap.size w w' := by
  have e0 : stepI s 0 = if 0 ≤ s % 8 + (0) ∧ s % 8 + (0) < 8 ∧ 0 ≤ s / 8 + (1) ∧ s / 8 + (1) < 8 then 8 * (s / 8 + (1)) + (s % 8 + (0)) else -1 := by
    unfold stepI; rw [if_pos (by omega)]; rfl
  have HE := hideIt e0
  clear e0
  have hc : (7 < s / 8 + (1)) ∨ (¬ (7 < s / 8 + (1))) := by omega
  rcases hc with c0 | c0
  all_goals
    go_enter Tryd.func53, Tryd.ntmps53
    go_wp2
    go_quiet (fail)
    go_wp2
    go_ret
    exact ⟨ret_int (by rw [HE.out]; first | (rw [if_neg (by omega)]; done) | (rw [if_pos (by omega)]; done) | (rw [if_pos (by omega)]; omega)), below_drewN (((Below.refl _ _).alloc (Nat.le_refl _) _).alloc (by simp) _) _⟩

set_option maxHeartbeats 1000000 in
theorem rstep_1 (s : Int) (h0 : 0 ≤ s) (h1 : s < 64) (w : World) :
    Calls Tryd.prog 53 #[.int .i64 s, .int .i64 1] w fun e w' => e = .returned (.int .i64 (stepI s 1)) ∧ Below w.heap.size w w' := by
  have e0 : stepI s 1 = if 0 ≤ s % 8 + (1) ∧ s % 8 + (1) < 8 ∧ 0 ≤ s / 8 + (1) ∧ s / 8 + (1) < 8 then 8 * (s / 8 + (1)) + (s % 8 + (1)) else -1 := by
    unfold stepI; rw [if_pos (by omega)]; rfl
  have HE := hideIt e0
  clear e0
  have hc : (7 < s % 8 + (1)) ∨ (¬ (7 < s % 8 + (1)) ∧ 7 < s / 8 + (1)) ∨ (¬ (7 < s % 8 + (1)) ∧ ¬ (7 < s / 8 + (1))) := by omega
  rcases hc with c0 | ⟨c0, c1⟩ | ⟨c0, c1⟩
  all_goals
    go_enter Tryd.func53, Tryd.ntmps53
    go_wp2
    go_quiet (fail)
    go_wp2
    go_ret
    exact ⟨ret_int (by rw [HE.out]; first | (rw [if_neg (by omega)]; done) | (rw [if_pos (by omega)]; done) | (rw [if_pos (by omega)]; omega)), below_drewN (((Below.refl _ _).alloc (Nat.le_refl _) _).alloc (by simp) _) _⟩

set_option maxHeartbeats 1000000 in
theorem rstep_2 (s : Int) (h0 : 0 ≤ s) (h1 : s < 64) (w : World) :
    Calls Tryd.prog 53 #[.int .i64 s, .int .i64 2] w fun e w' => e = .returned (.int .i64 (stepI s 2)) ∧ Below w.heap.size w w' := by
  have e0 : stepI s 2 = if 0 ≤ s % 8 + (1) ∧ s % 8 + (1) < 8 ∧ 0 ≤ s / 8 + (0) ∧ s / 8 + (0) < 8 then 8 * (s / 8 + (0)) + (s % 8 + (1)) else -1 := by
    unfold stepI; rw [if_pos (by omega)]; rfl
  have HE := hideIt e0
  clear e0
  have hc : (7 < s % 8 + (1)) ∨ (¬ (7 < s % 8 + (1))) := by omega
  rcases hc with c0 | c0
  all_goals
    go_enter Tryd.func53, Tryd.ntmps53
    go_wp2
    go_quiet (fail)
    go_wp2
    go_ret
    exact ⟨ret_int (by rw [HE.out]; first | (rw [if_neg (by omega)]; done) | (rw [if_pos (by omega)]; done) | (rw [if_pos (by omega)]; omega)), below_drewN (((Below.refl _ _).alloc (Nat.le_refl _) _).alloc (by simp) _) _⟩

set_option maxHeartbeats 1000000 in
theorem rstep_3 (s : Int) (h0 : 0 ≤ s) (h1 : s < 64) (w : World) :
    Calls Tryd.prog 53 #[.int .i64 s, .int .i64 3] w fun e w' => e = .returned (.int .i64 (stepI s 3)) ∧ Below w.heap.size w w' := by
  have e0 : stepI s 3 = if 0 ≤ s % 8 + (1) ∧ s % 8 + (1) < 8 ∧ 0 ≤ s / 8 + (-1) ∧ s / 8 + (-1) < 8 then 8 * (s / 8 + (-1)) + (s % 8 + (1)) else -1 := by
    unfold stepI; rw [if_pos (by omega)]; rfl
  have HE := hideIt e0
  clear e0
  have hc : (7 < s % 8 + (1)) ∨ (¬ (7 < s % 8 + (1)) ∧ s / 8 + (-1) < 0) ∨ (¬ (7 < s % 8 + (1)) ∧ ¬ (s / 8 + (-1) < 0)) := by omega
  rcases hc with c0 | ⟨c0, c1⟩ | ⟨c0, c1⟩
  all_goals
    go_enter Tryd.func53, Tryd.ntmps53
    go_wp2
    go_quiet (fail)
    go_wp2
    go_ret
    exact ⟨ret_int (by rw [HE.out]; first | (rw [if_neg (by omega)]; done) | (rw [if_pos (by omega)]; done) | (rw [if_pos (by omega)]; omega)), below_drewN (((Below.refl _ _).alloc (Nat.le_refl _) _).alloc (by simp) _) _⟩

end Go.Proofs.YtnbfgangmkfolaaDoor
