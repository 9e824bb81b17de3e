/- Walks of squares: squares, File, Rank, Of, Distance, Flip. -/
import Derived.Test.YtnbfgangmkfolaaDoorS
import Derived.Test.YtnbfgangmkfolaaDoorRows
namespace Go.Proofs.YtnbfgangmkfolaaDoor
open Go Go.RowKit

theorem new_cell1 (w : World) (v : Value) (t : TypeId) : (w.alloc (.cells #[v] t)).cell? ⟨w.heap.size, 0, none⟩ = some v := by
  rw [World.cell?_alloc_at _ _ _ _ rfl]; rfl
theorem new_cell2 (w : World) (v v' : Value) (t : TypeId) : (w.alloc (.cells #[v, v'] t)).cell? ⟨w.heap.size, 0, none⟩ = some v ∧ (w.alloc (.cells #[v, v'] t)).cell? ⟨w.heap.size, 1, none⟩ = some v' := by
  constructor
  · rw [World.cell?_alloc_at _ _ _ _ rfl]; rfl
  · rw [World.cell?_alloc_at _ _ _ _ rfl]; rfl

theorem squares_1 (g c : Nat) (s : Int) (r : Bool) (hr : decide (0 ≤ s ∧ s < 64) = r) (w : World) (h0 : w.cell? ⟨g, 0, none⟩ = some (.int .i64 s)) :
    Calls Tryd.prog 45 #[.slice (some ⟨g, 0, none⟩) 1 c] w fun e w' => e = .returned (.bool r) ∧ w = w' := by
  subst hr
  have hc : s < 0 ∨ (0 ≤ s ∧ 64 ≤ s) ∨ (0 ≤ s ∧ s < 64) := by omega
  rcases hc with h1 | ⟨h1, h2⟩ | ⟨h1, h2⟩
  · go_enter Tryd.func45, Tryd.ntmps45
    go_wp2
    refine wp_loop_rounds 1 ?_
    rw [rounds_succ]
    go_wp2
    go_ret
    exact ⟨ret_bool (by symm; rw [decide_eq_false_iff_not]; omega), rfl⟩
  · go_enter Tryd.func45, Tryd.ntmps45
    go_wp2
    refine wp_loop_rounds 1 ?_
    rw [rounds_succ]
    go_wp2
    go_ret
    exact ⟨ret_bool (by symm; rw [decide_eq_false_iff_not]; omega), rfl⟩
  · go_enter Tryd.func45, Tryd.ntmps45
    go_wp2
    refine wp_loop_rounds 2 ?_
    rw [rounds_succ]
    go_wp2
    rw [rounds_succ]
    go_wp2
    go_ret
    exact ⟨ret_bool (by symm; rw [decide_eq_true_eq]; omega), rfl⟩

theorem squares_2 (g c : Nat) (s t : Int) (r : Bool) (hr : decide ((0 ≤ s ∧ s < 64) ∧ (0 ≤ t ∧ t < 64)) = r) (w : World) (h0 : w.cell? ⟨g, 0, none⟩ = some (.int .i64 s) ∧ w.cell? ⟨g, 1, none⟩ = some (.int .i64 t)) :
    Calls Tryd.prog 45 #[.slice (some ⟨g, 0, none⟩) 2 c] w fun e w' => e = .returned (.bool r) ∧ w = w' := by
  subst hr
  obtain ⟨h0, h0'⟩ := h0
  have hc : s < 0 ∨ (0 ≤ s ∧ 64 ≤ s) ∨ (0 ≤ s ∧ s < 64 ∧ t < 0) ∨ (0 ≤ s ∧ s < 64 ∧ 0 ≤ t ∧ 64 ≤ t) ∨ (0 ≤ s ∧ s < 64 ∧ 0 ≤ t ∧ t < 64) := by omega
  rcases hc with h1 | ⟨h1, h2⟩ | ⟨h1, h2, h3⟩ | ⟨h1, h2, h3, h4⟩ | ⟨h1, h2, h3, h4⟩
  · go_enter Tryd.func45, Tryd.ntmps45
    go_wp2
    refine wp_loop_rounds 1 ?_
    rw [rounds_succ]
    go_wp2
    go_ret
    exact ⟨ret_bool (by symm; rw [decide_eq_false_iff_not]; omega), rfl⟩
  · go_enter Tryd.func45, Tryd.ntmps45
    go_wp2
    refine wp_loop_rounds 1 ?_
    rw [rounds_succ]
    go_wp2
    go_ret
    exact ⟨ret_bool (by symm; rw [decide_eq_false_iff_not]; omega), rfl⟩
  · go_enter Tryd.func45, Tryd.ntmps45
    go_wp2
    refine wp_loop_rounds 2 ?_
    rw [rounds_succ]
    go_wp2
    rw [rounds_succ]
    go_wp2
    go_ret
    exact ⟨ret_bool (by symm; rw [decide_eq_false_iff_not]; omega), rfl⟩
  · go_enter Tryd.func45, Tryd.ntmps45
    go_wp2
    refine wp_loop_rounds 2 ?_
    rw [rounds_succ]
    go_wp2
    rw [rounds_succ]
    go_wp2
    go_ret
    exact ⟨ret_bool (by symm; rw [decide_eq_false_iff_not]; omega), rfl⟩
  · go_enter Tryd.func45, Tryd.ntmps45
    go_wp2
    refine wp_loop_rounds 3 ?_
    rw [rounds_succ]
    go_wp2
    rw [rounds_succ]
    go_wp2
    rw [rounds_succ]
    go_wp2
    go_ret
    exact ⟨ret_bool (by symm; rw [decide_eq_true_eq]; omega), rfl⟩

set_option maxHeartbeats 400000 in
theorem sFile_any (s : Int) (w : World) :
    Calls Tryd.prog 30 #[.int .i64 s] w fun e w' => e = .returned (.int .i64 (fileI s)) ∧ Below w.heap.size w w' := by
  by_cases h : 0 ≤ s ∧ s < 64
  · have H := hideIt (show fileI s = _ from if_pos h)
    have h0 := h.1
    have h1 := h.2
    go_enter Tryd.func30, Tryd.ntmps30
    go_wp2_with fail
    refine (squares_1 _ _ s true (decide_eq_true h) _ (new_cell1 _ _ _)).mono ?_
    rintro e w' ⟨rfl, rfl⟩
    go_wp2
    go_ret
    exact ⟨ret_int (by rw [H.out]), (Below.refl _ _).alloc (Nat.le_refl _) _⟩
  · have H := hideIt (show fileI s = _ from if_neg h)
    go_enter Tryd.func30, Tryd.ntmps30
    go_wp2_with fail
    refine (squares_1 _ _ s false (decide_eq_false h) _ (new_cell1 _ _ _)).mono ?_
    rintro e w' ⟨rfl, rfl⟩
    go_wp2
    go_ret
    exact ⟨ret_int (by rw [H.out]), (Below.refl _ _).alloc (Nat.le_refl _) _⟩

set_option maxHeartbeats 400000 in
theorem sRank_any (s : Int) (w : World) :
    Calls Tryd.prog 31 #[.int .i64 s] w fun e w' => e = .returned (.int .i64 (rankI s)) ∧ Below w.heap.size w w' := by
  by_cases h : 0 ≤ s ∧ s < 64
  · have H := hideIt (show rankI s = _ from if_pos h)
    have h0 := h.1
    have h1 := h.2
    go_enter Tryd.func31, Tryd.ntmps31
    go_wp2_with fail
    refine (squares_1 _ _ s true (decide_eq_true h) _ (new_cell1 _ _ _)).mono ?_
    rintro e w' ⟨rfl, rfl⟩
    go_wp2
    go_ret
    exact ⟨ret_int (by rw [H.out]), (Below.refl _ _).alloc (Nat.le_refl _) _⟩
  · have H := hideIt (show rankI s = _ from if_neg h)
    go_enter Tryd.func31, Tryd.ntmps31
    go_wp2_with fail
    refine (squares_1 _ _ s false (decide_eq_false h) _ (new_cell1 _ _ _)).mono ?_
    rintro e w' ⟨rfl, rfl⟩
    go_wp2
    go_ret
    exact ⟨ret_int (by rw [H.out]), (Below.refl _ _).alloc (Nat.le_refl _) _⟩

set_option maxHeartbeats 400000 in
theorem sFlip_any (s : Int) (w : World) :
    Calls Tryd.prog 24 #[.int .i64 s] w fun e w' => e = .returned (.int .i64 (flipS s)) ∧ Below w.heap.size w w' := by
  by_cases h : 0 ≤ s ∧ s < 64
  · have H := hideIt (show flipS s = _ from if_pos h)
    have h0 := h.1
    have h1 := h.2
    go_enter Tryd.func24, Tryd.ntmps24
    go_wp2_with fail
    refine (squares_1 _ _ s true (decide_eq_true h) _ (new_cell1 _ _ _)).mono ?_
    rintro e w' ⟨rfl, rfl⟩
    go_wp2
    go_ret
    exact ⟨ret_int (by rw [H.out]; exact xor56 s h0 h1), (Below.refl _ _).alloc (Nat.le_refl _) _⟩
  · have H := hideIt (show flipS s = _ from if_neg h)
    go_enter Tryd.func24, Tryd.ntmps24
    go_wp2_with fail
    refine (squares_1 _ _ s false (decide_eq_false h) _ (new_cell1 _ _ _)).mono ?_
    rintro e w' ⟨rfl, rfl⟩
    go_wp2
    go_ret
    exact ⟨ret_int (by rw [H.out]), (Below.refl _ _).alloc (Nat.le_refl _) _⟩

set_option maxHeartbeats 800000 in
theorem sDistance_any (a b : Int) (w : World) :
    Calls Tryd.prog 50 #[.int .i64 a, .int .i64 b] w fun e w' => e = .returned (.int .i64 (distI a b)) ∧ Below w.heap.size w w' := by
  by_cases h : (0 ≤ a ∧ a < 64) ∧ (0 ≤ b ∧ b < 64)
  · have H := hideIt (show distI a b = _ from if_pos h)
    have F1 := hideIt (show fileI a = a % 8 from if_pos h.1)
    have F2 := hideIt (show fileI b = b % 8 from if_pos h.2)
    have R1 := hideIt (show rankI a = a / 8 from if_pos h.1)
    have R2 := hideIt (show rankI b = b / 8 from if_pos h.2)
    have ha0 := h.1.1
    have ha1 := h.1.2
    have hb0 := h.2.1
    have hb1 := h.2.2
    go_enter Tryd.func50, Tryd.ntmps50
    go_wp2_with fail
    refine (squares_2 _ _ a b true (decide_eq_true h) _ (new_cell2 _ _ _ _)).mono ?_
    rintro e w' ⟨rfl, rfl⟩
    have hb := (Below.refl w.heap.size w).alloc (Nat.le_refl _) (.cells #[.int .i64 a, .int .i64 b] 3)
    clear h
    go_wp2_with fail
    refine (sFile_any a _).mono ?_
    rintro e w1 ⟨rfl, h1⟩
    rw [F1.out]
    have hb := hb.trans (h1.mono hb.size)
    clear h1
    go_wp2_with fail
    refine (sFile_any b _).mono ?_
    rintro e w2 ⟨rfl, h1⟩
    rw [F2.out]
    have hb := hb.trans (h1.mono hb.size)
    clear h1
    go_wp2_with fail
    refine (sRank_any a _).mono ?_
    rintro e w3 ⟨rfl, h1⟩
    rw [R1.out]
    have hb := hb.trans (h1.mono hb.size)
    clear h1
    go_wp2_with fail
    refine (sRank_any b _).mono ?_
    rintro e w4 ⟨rfl, h1⟩
    rw [R2.out]
    have hb := hb.trans (h1.mono hb.size)
    clear h1
    go_wp2
    all_goals go_ret
    all_goals exact ⟨ret_int (by rw [H.out]; unfold max4; omega), hb⟩
  · have H := hideIt (show distI a b = _ from if_neg h)
    go_enter Tryd.func50, Tryd.ntmps50
    go_wp2_with fail
    refine (squares_2 _ _ a b false (decide_eq_false h) _ (new_cell2 _ _ _ _)).mono ?_
    rintro e w' ⟨rfl, rfl⟩
    go_wp2
    go_ret
    exact ⟨ret_int (by rw [H.out]), (Below.refl _ _).alloc (Nat.le_refl _) _⟩

end Go.Proofs.YtnbfgangmkfolaaDoor
