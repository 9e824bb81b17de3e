/- Walks of the reference of squares: File, Rank, Of, apart, Distance, Flip. -/
import Derived.Test.YtccdelpiflcipaaDoorS
import Derived.Test.YtccdelpiflcipaaDoorRows
namespace Go.Proofs.YtccdelpiflcipaaDoor
open Go Go.RowKit

set_option maxHeartbeats 400000 in
theorem rFile_any (s : Int) (w : World) :
    Calls Tryd.prog 38 #[.int .i64 s] w fun e w' => e = .returned (.int .i64 (fileI s)) ∧ w = w' := by
  have hc : s < 0 ∨ (0 ≤ s ∧ 63 < s) ∨ (0 ≤ s ∧ s < 64) := by omega
  rcases hc with h1 | ⟨h1, h2⟩ | ⟨h1, h2⟩
  · go_enter Tryd.func38, Tryd.ntmps38
    go_wp2
    go_ret
    exact ⟨ret_int (if_neg (by omega)).symm, rfl⟩
  · go_enter Tryd.func38, Tryd.ntmps38
    go_wp2
    go_ret
    exact ⟨ret_int (if_neg (by omega)).symm, rfl⟩
  · have H := hideIt (show fileI s = s % 8 from if_pos ⟨h1, h2⟩)
    go_enter Tryd.func38, Tryd.ntmps38
    go_wp2
    go_loop [0] (fun x => ∃ y : Int, 0 ≤ y ∧ y < 64 ∧ y % 8 = s % 8 ∧ x = .int .i64 y) (fun x => (intOf x).toNat)
    case atStart => exact ⟨s, h1, h2, rfl, rfl⟩
    case round =>
      obtain ⟨y, hy0, hy1, hy, rfl⟩ := hrel
      have HY := hideIt hy
      clear hy
      by_cases hlt : 8 ≤ y
      · go_wp2
        go_round
        case rel => exact ⟨y - 8, by omega, by omega, by have := HY.out; omega, rfl⟩
        case measure => simp [intOf]; omega
      · go_wp2
        go_ret
        exact ⟨ret_int (by rw [H.out]; have := HY.out; omega), rfl⟩

set_option maxHeartbeats 400000 in
theorem rRank_any (s : Int) (w : World) :
    Calls Tryd.prog 33 #[.int .i64 s] w fun e w' => e = .returned (.int .i64 (rankI s)) ∧ w = w' := by
  have hc : s < 0 ∨ (0 ≤ s ∧ 63 < s) ∨ (0 ≤ s ∧ s < 64) := by omega
  rcases hc with h1 | ⟨h1, h2⟩ | ⟨h1, h2⟩
  · go_enter Tryd.func33, Tryd.ntmps33
    go_wp2
    go_ret
    exact ⟨ret_int (if_neg (by omega)).symm, rfl⟩
  · go_enter Tryd.func33, Tryd.ntmps33
    go_wp2
    go_ret
    exact ⟨ret_int (if_neg (by omega)).symm, rfl⟩
  · have H := hideIt (show rankI s = s / 8 from if_pos ⟨h1, h2⟩)
    go_enter Tryd.func33, Tryd.ntmps33
    go_wp2
    go_loop [0, 3] (fun x n => ∃ y z : Int, 0 ≤ y ∧ y < 64 ∧ 0 ≤ z ∧ z < 64 ∧ y / 8 + z = s / 8 ∧ x = .int .i64 y ∧ n = .int .i64 z) (fun x _ => (intOf x).toNat)
    case atStart => exact ⟨s, 0, h1, h2, by omega, by omega, by omega, rfl, rfl⟩
    case round =>
      obtain ⟨y, z, hy0, hy1, hz0, hz1, hy, rfl, rfl⟩ := hrel
      have HY := hideIt hy
      clear hy
      by_cases hlt : 8 ≤ y
      · go_wp2
        go_round
        case rel => exact ⟨y - 8, z + 1, by omega, by omega, by omega, by have := HY.out; omega, by have := HY.out; omega, rfl, rfl⟩
        case measure => simp [intOf]; omega
      · go_wp2
        go_ret
        exact ⟨ret_int (by rw [H.out]; have := HY.out; omega), rfl⟩


theorem rapart_any (a b : Int) (ha : 0 ≤ a ∧ a < 64) (hb : 0 ≤ b ∧ b < 64) (w : World) :
    Calls Tryd.prog 39 #[.int .i64 a, .int .i64 b] w fun e w' => e = .returned (.int .i64 (max (a - b) (b - a))) ∧ w = w' := by
  have h0 := ha.1
  have h1 := ha.2
  have h2 := hb.1
  have h3 := hb.2
  by_cases h : a < b
  · go_enter Tryd.func39, Tryd.ntmps39
    go_wp2
    go_ret
    exact ⟨ret_int (by omega), rfl⟩
  · go_enter Tryd.func39, Tryd.ntmps39
    go_wp2
    go_ret
    exact ⟨ret_int (by omega), rfl⟩

set_option maxHeartbeats 800000 in
theorem rDistance_any (a b : Int) (w : World) :
    Calls Tryd.prog 25 #[.int .i64 a, .int .i64 b] w fun e w' => e = .returned (.int .i64 (distI a b)) ∧ w = w' := by
  by_cases ha : 0 ≤ a ∧ a < 64
  · have F1 := hideIt (show fileI a = a % 8 from if_pos ha)
    have R1 := hideIt (show rankI a = a / 8 from if_pos ha)
    by_cases hb : 0 ≤ b ∧ b < 64
    · have F2 := hideIt (show fileI b = b % 8 from if_pos hb)
      have R2 := hideIt (show rankI b = b / 8 from if_pos hb)
      have H := hideIt (show distI a b = _ from if_pos ⟨ha, hb⟩)
      have h0 := ha.1
      have h1 := ha.2
      have h2 := hb.1
      have h3 := hb.2
      clear ha hb
      by_cases hm : max (a / 8 - b / 8) (b / 8 - a / 8) < max (a % 8 - b % 8) (b % 8 - a % 8)
      all_goals
        go_enter Tryd.func25, Tryd.ntmps25
        go_wp2_with fail
        refine (rFile_any _ _).mono ?_
        rintro e w' ⟨rfl, rfl⟩
        rw [F1.out]
        go_wp2_with fail
        refine (rFile_any _ _).mono ?_
        rintro e w' ⟨rfl, rfl⟩
        rw [F2.out]
        go_wp2_with fail
        refine (rFile_any _ _).mono ?_
        rintro e w' ⟨rfl, rfl⟩
        rw [F1.out]
        go_wp2_with fail
        refine (rFile_any _ _).mono ?_
        rintro e w' ⟨rfl, rfl⟩
        rw [F2.out]
        go_wp2_with fail
        refine (rapart_any _ _ (by omega) (by omega) _).mono ?_
        rintro e w' ⟨rfl, rfl⟩
        go_wp2_with fail
        refine (rRank_any _ _).mono ?_
        rintro e w' ⟨rfl, rfl⟩
        rw [R1.out]
        go_wp2_with fail
        refine (rRank_any _ _).mono ?_
        rintro e w' ⟨rfl, rfl⟩
        rw [R2.out]
        go_wp2_with fail
        refine (rapart_any _ _ (by omega) (by omega) _).mono ?_
        rintro e w' ⟨rfl, rfl⟩
        generalize hx : max (a % 8 - b % 8) (b % 8 - a % 8) = x at *
        generalize hy : max (a / 8 - b / 8) (b / 8 - a / 8) = y at *
        clear hx hy
        go_wp2
        go_ret
        exact ⟨ret_int (by rw [H.out]; omega), rfl⟩
    · have F2 := hideIt (show fileI b = -1 from if_neg hb)
      have H := hideIt (show distI a b = -1 from if_neg (fun h => hb h.2))
      have h0 := ha.1
      clear ha hb
      go_enter Tryd.func25, Tryd.ntmps25
      go_wp2_with fail
      refine (rFile_any _ _).mono ?_
      rintro e w' ⟨rfl, rfl⟩
      rw [F1.out]
      go_wp2_with fail
      refine (rFile_any _ _).mono ?_
      rintro e w' ⟨rfl, rfl⟩
      rw [F2.out]
      go_wp2
      go_ret
      exact ⟨ret_int H.out.symm, rfl⟩
  · have F1 := hideIt (show fileI a = -1 from if_neg ha)
    have H := hideIt (show distI a b = -1 from if_neg (fun h => ha h.1))
    clear ha
    go_enter Tryd.func25, Tryd.ntmps25
    go_wp2_with fail
    refine (rFile_any _ _).mono ?_
    rintro e w' ⟨rfl, rfl⟩
    rw [F1.out]
    go_wp2
    go_ret
    exact ⟨ret_int H.out.symm, rfl⟩


end Go.Proofs.YtccdelpiflcipaaDoor
