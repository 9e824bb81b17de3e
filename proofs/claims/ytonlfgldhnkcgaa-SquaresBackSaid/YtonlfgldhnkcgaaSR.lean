/- Walks of the reference of squares: File, Rank, Of, apart, Distance, Flip. -/
import Derived.Test.YtonlfgldhnkcgaaS
import Derived.Test.YtonlfgldhnkcgaaRows
namespace Go.Proofs.Ytonlfgldhnkcgaa
open Go Go.RowKit

set_option maxHeartbeats 400000 in
theorem rFile_any (s : Int) (w : World) :
    Calls Try.prog 13 #[.int .i64 s] w fun e w' => e = .returned (.int .i64 (fileI s)) ∧ w = w' := by
  have hc : s < 0 ∨ (0 ≤ s ∧ 63 < s) ∨ (0 ≤ s ∧ s < 64) := by omega
  rcases hc with h1 | ⟨h1, h2⟩ | ⟨h1, h2⟩
  · go_enter Try.func13, Try.ntmps13
    go_wp2
    go_ret
    exact ⟨ret_int (if_neg (by omega)).symm, rfl⟩
  · go_enter Try.func13, Try.ntmps13
    go_wp2
    go_ret
    exact ⟨ret_int (if_neg (by omega)).symm, rfl⟩
  · have H := hideIt (show fileI s = s % 8 from if_pos ⟨h1, h2⟩)
    go_enter Try.func13, Try.ntmps13
    go_wp2
    go_loop [0] (fun x => ∃ y : Int, 0 ≤ y ∧ y < 64 ∧ y % 8 = s % 8 ∧ x = .int .i64 y) (fun x => (intOf x).toNat)
    case atStart => exact ⟨s, h1, h2, rfl, rfl⟩
    case round =>
      obtain ⟨y, hy0, hy1, hy, rfl⟩ := hrel
      have HY := hideIt hy
      clear hy
      by_cases hlt : 8 ≤ y
      · go_wp2
        go_round
        case rel => exact ⟨y - 8, by omega, by omega, by have := HY.out; omega, rfl⟩
        case measure => simp [intOf]; omega
      · go_wp2
        go_ret
        exact ⟨ret_int (by rw [H.out]; have := HY.out; omega), rfl⟩

set_option maxHeartbeats 400000 in
theorem rRank_any (s : Int) (w : World) :
    Calls Try.prog 15 #[.int .i64 s] w fun e w' => e = .returned (.int .i64 (rankI s)) ∧ w = w' := by
  have hc : s < 0 ∨ (0 ≤ s ∧ 63 < s) ∨ (0 ≤ s ∧ s < 64) := by omega
  rcases hc with h1 | ⟨h1, h2⟩ | ⟨h1, h2⟩
  · go_enter Try.func15, Try.ntmps15
    go_wp2
    go_ret
    exact ⟨ret_int (if_neg (by omega)).symm, rfl⟩
  · go_enter Try.func15, Try.ntmps15
    go_wp2
    go_ret
    exact ⟨ret_int (if_neg (by omega)).symm, rfl⟩
  · have H := hideIt (show rankI s = s / 8 from if_pos ⟨h1, h2⟩)
    go_enter Try.func15, Try.ntmps15
    go_wp2
    go_loop [0, 3] (fun x n => ∃ y z : Int, 0 ≤ y ∧ y < 64 ∧ 0 ≤ z ∧ z < 64 ∧ y / 8 + z = s / 8 ∧ x = .int .i64 y ∧ n = .int .i64 z) (fun x _ => (intOf x).toNat)
    case atStart => exact ⟨s, 0, h1, h2, by omega, by omega, by omega, rfl, rfl⟩
    case round =>
      obtain ⟨y, z, hy0, hy1, hz0, hz1, hy, rfl, rfl⟩ := hrel
      have HY := hideIt hy
      clear hy
      by_cases hlt : 8 ≤ y
      · go_wp2
        go_round
        case rel => exact ⟨y - 8, z + 1, by omega, by omega, by omega, by have := HY.out; omega, by have := HY.out; omega, rfl, rfl⟩
        case measure => simp [intOf]; omega
      · go_wp2
        go_ret
        exact ⟨ret_int (by rw [H.out]; have := HY.out; omega), rfl⟩

set_option maxHeartbeats 800000 in
theorem rOf_any (f r : Int) (w : World) :
    Calls Try.prog 11 #[.int .i64 f, .int .i64 r] w fun e w' => e = .returned (.tuple #[.int .i64 (ofFR f r), .bool (okI f r)]) ∧ w = w' := by
  have H1 : ∀ k : Nat, k < 64 → ((k : Int) % 8 = f ∧ (k : Int) / 8 = r) → (k : Int) = ofFR f r ∧ true = okI f r := by
    intro k hk ⟨h1, h2⟩
    constructor
    · unfold ofFR; rw [if_pos (by omega)]; omega
    · symm; exact decide_eq_true (by omega)
  have H2 : (∀ k : Nat, k < 64 → ¬ ((k : Int) % 8 = f ∧ (k : Int) / 8 = r)) → 0 = ofFR f r ∧ false = okI f r := by
    intro h
    have : ¬ (0 ≤ f ∧ f < 8 ∧ 0 ≤ r ∧ r < 8) := by
      intro hh
      exact h (8 * r + f).toNat (by omega) (by omega)
    exact ⟨(if_neg this).symm, (decide_eq_false this).symm⟩
  have K1 := hideIt H1
  have K2 := hideIt H2
  clear H1 H2
  go_enter Try.func11, Try.ntmps11
  go_wp2
  go_loop [6] (fun i => ∃ k : Nat, k ≤ 64 ∧ i = .int .i64 k ∧ Hid (∀ j : Nat, j < k → ¬ ((j : Int) % 8 = f ∧ (j : Int) / 8 = r))) (fun i => 64 - (intOf i).toNat)
  case atStart => exact ⟨0, by omega, rfl, fun j hj => absurd hj (Nat.not_lt_zero j)⟩
  case round =>
    obtain ⟨k, hk, rfl, hn⟩ := hrel
    by_cases hlt : k < 64
    · have F := hideIt (show fileI (k : Int) = (k : Int) % 8 from if_pos (by omega))
      have R := hideIt (show rankI (k : Int) = (k : Int) / 8 from if_pos (by omega))
      by_cases h1 : (k : Int) % 8 = f
      · have e1 : ((k : Int) % 8 == f) = true := by rw [beq_iff_eq]; exact h1
        by_cases h2 : (k : Int) / 8 = r
        · have e2 : ((k : Int) / 8 == r) = true := by rw [beq_iff_eq]; exact h2
          have K := hideIt (K1.out k hlt ⟨h1, h2⟩)
          clear h1 h2
          go_wp2_with fail
          refine (rFile_any _ _).mono ?_
          rintro e w' ⟨rfl, rfl⟩
          rw [F.out]
          go_wp2_with fail
          refine (rRank_any _ _).mono ?_
          rintro e w' ⟨rfl, rfl⟩
          rw [R.out]
          go_wp2
          go_ret2
          exact ⟨ret_pair K.out.1 K.out.2, rfl⟩
        · have e2 : ((k : Int) / 8 == r) = false := by rw [beq_eq_false_iff_ne]; exact h2
          have HN : Hid (∀ j : Nat, j < k + 1 → ¬ ((j : Int) % 8 = f ∧ (j : Int) / 8 = r)) := by
            intro j hj
            by_cases e : j = k
            · subst e; intro hh; exact h2 hh.2
            · exact hn.out j (by omega)
          clear h1 h2
          go_wp2_with fail
          refine (rFile_any _ _).mono ?_
          rintro e w' ⟨rfl, rfl⟩
          rw [F.out]
          go_wp2_with fail
          refine (rRank_any _ _).mono ?_
          rintro e w' ⟨rfl, rfl⟩
          rw [R.out]
          go_wp2
          go_round
          case rel => exact ⟨k + 1, by omega, by go_num, HN⟩
          case measure => simp [intOf]; omega
      · have e1 : ((k : Int) % 8 == f) = false := by rw [beq_eq_false_iff_ne]; exact h1
        have HN : Hid (∀ j : Nat, j < k + 1 → ¬ ((j : Int) % 8 = f ∧ (j : Int) / 8 = r)) := by
          intro j hj
          by_cases e : j = k
          · subst e; intro hh; exact h1 hh.1
          · exact hn.out j (by omega)
        clear h1
        go_wp2_with fail
        refine (rFile_any _ _).mono ?_
        rintro e w' ⟨rfl, rfl⟩
        rw [F.out]
        go_wp2
        go_round
        case rel => exact ⟨k + 1, by omega, by go_num, HN⟩
        case measure => simp [intOf]; omega
    · obtain rfl : k = 64 := by omega
      go_wp2
      go_ret2
      exact ⟨ret_pair (K2.out hn.out).1 (K2.out hn.out).2, rfl⟩

theorem rapart_any (a b : Int) (ha : 0 ≤ a ∧ a < 64) (hb : 0 ≤ b ∧ b < 64) (w : World) :
    Calls Try.prog 26 #[.int .i64 a, .int .i64 b] w fun e w' => e = .returned (.int .i64 (max (a - b) (b - a))) ∧ w = w' := by
  have h0 := ha.1
  have h1 := ha.2
  have h2 := hb.1
  have h3 := hb.2
  by_cases h : a < b
  · go_enter Try.func26, Try.ntmps26
    go_wp2
    go_ret
    exact ⟨ret_int (by omega), rfl⟩
  · go_enter Try.func26, Try.ntmps26
    go_wp2
    go_ret
    exact ⟨ret_int (by omega), rfl⟩

set_option maxHeartbeats 800000 in
theorem rDistance_any (a b : Int) (w : World) :
    Calls Try.prog 17 #[.int .i64 a, .int .i64 b] w fun e w' => e = .returned (.int .i64 (distI a b)) ∧ w = w' := by
  by_cases ha : 0 ≤ a ∧ a < 64
  · have F1 := hideIt (show fileI a = a % 8 from if_pos ha)
    have R1 := hideIt (show rankI a = a / 8 from if_pos ha)
    by_cases hb : 0 ≤ b ∧ b < 64
    · have F2 := hideIt (show fileI b = b % 8 from if_pos hb)
      have R2 := hideIt (show rankI b = b / 8 from if_pos hb)
      have H := hideIt (show distI a b = _ from if_pos ⟨ha, hb⟩)
      have h0 := ha.1
      have h1 := ha.2
      have h2 := hb.1
      have h3 := hb.2
      clear ha hb
      by_cases hm : max (a / 8 - b / 8) (b / 8 - a / 8) < max (a % 8 - b % 8) (b % 8 - a % 8)
      all_goals
        go_enter Try.func17, Try.ntmps17
        go_wp2_with fail
        refine (rFile_any _ _).mono ?_
        rintro e w' ⟨rfl, rfl⟩
        rw [F1.out]
        go_wp2_with fail
        refine (rFile_any _ _).mono ?_
        rintro e w' ⟨rfl, rfl⟩
        rw [F2.out]
        go_wp2_with fail
        refine (rFile_any _ _).mono ?_
        rintro e w' ⟨rfl, rfl⟩
        rw [F1.out]
        go_wp2_with fail
        refine (rFile_any _ _).mono ?_
        rintro e w' ⟨rfl, rfl⟩
        rw [F2.out]
        go_wp2_with fail
        refine (rapart_any _ _ (by omega) (by omega) _).mono ?_
        rintro e w' ⟨rfl, rfl⟩
        go_wp2_with fail
        refine (rRank_any _ _).mono ?_
        rintro e w' ⟨rfl, rfl⟩
        rw [R1.out]
        go_wp2_with fail
        refine (rRank_any _ _).mono ?_
        rintro e w' ⟨rfl, rfl⟩
        rw [R2.out]
        go_wp2_with fail
        refine (rapart_any _ _ (by omega) (by omega) _).mono ?_
        rintro e w' ⟨rfl, rfl⟩
        generalize hx : max (a % 8 - b % 8) (b % 8 - a % 8) = x at *
        generalize hy : max (a / 8 - b / 8) (b / 8 - a / 8) = y at *
        clear hx hy
        go_wp2
        go_ret
        exact ⟨ret_int (by rw [H.out]; omega), rfl⟩
    · have F2 := hideIt (show fileI b = -1 from if_neg hb)
      have H := hideIt (show distI a b = -1 from if_neg (fun h => hb h.2))
      have h0 := ha.1
      clear ha hb
      go_enter Try.func17, Try.ntmps17
      go_wp2_with fail
      refine (rFile_any _ _).mono ?_
      rintro e w' ⟨rfl, rfl⟩
      rw [F1.out]
      go_wp2_with fail
      refine (rFile_any _ _).mono ?_
      rintro e w' ⟨rfl, rfl⟩
      rw [F2.out]
      go_wp2
      go_ret
      exact ⟨ret_int H.out.symm, rfl⟩
  · have F1 := hideIt (show fileI a = -1 from if_neg ha)
    have H := hideIt (show distI a b = -1 from if_neg (fun h => ha h.1))
    clear ha
    go_enter Try.func17, Try.ntmps17
    go_wp2_with fail
    refine (rFile_any _ _).mono ?_
    rintro e w' ⟨rfl, rfl⟩
    rw [F1.out]
    go_wp2
    go_ret
    exact ⟨ret_int H.out.symm, rfl⟩

set_option maxHeartbeats 800000 in
theorem rFlip_any (s : Int) (w : World) :
    Calls Try.prog 19 #[.int .i64 s] w fun e w' => e = .returned (.int .i64 (flipS s)) ∧ w = w' := by
  by_cases h : 0 ≤ s ∧ s < 64
  · have F1 := hideIt (show fileI s = s % 8 from if_pos h)
    have R1 := hideIt (show rankI s = s / 8 from if_pos h)
    have H := hideIt (show flipS s = flipI s from if_pos h)
    have O1 := hideIt (show ofFR (s % 8) (7 - s / 8) = flipI s by unfold ofFR flipI; rw [if_pos (by omega)])
    have O2 := hideIt (show okI (s % 8) (7 - s / 8) = true from decide_eq_true (by omega))
    have h0 := h.1
    have h1 := h.2
    clear h
    go_enter Try.func19, Try.ntmps19
    go_wp2_with fail
    refine (rFile_any _ _).mono ?_
    rintro e w' ⟨rfl, rfl⟩
    rw [F1.out]
    go_wp2_with fail
    refine (rRank_any _ _).mono ?_
    rintro e w' ⟨rfl, rfl⟩
    rw [R1.out]
    go_wp2_with fail
    refine (rOf_any _ _ _).mono ?_
    rintro e w' ⟨rfl, rfl⟩
    rw [O1.out, O2.out]
    go_wp2
    go_ret
    exact ⟨ret_int H.out.symm, rfl⟩
  · have F1 := hideIt (show fileI s = -1 from if_neg h)
    have R1 := hideIt (show rankI s = -1 from if_neg h)
    have H := hideIt (show flipS s = -1 from if_neg h)
    have O2 := hideIt (show okI (-1) 8 = false by decide)
    clear h
    go_enter Try.func19, Try.ntmps19
    go_wp2_with fail
    refine (rFile_any _ _).mono ?_
    rintro e w' ⟨rfl, rfl⟩
    rw [F1.out]
    go_wp2_with fail
    refine (rRank_any _ _).mono ?_
    rintro e w' ⟨rfl, rfl⟩
    rw [R1.out]
    go_wp2_with fail
    refine (rOf_any _ _ _).mono ?_
    rintro e w' ⟨rfl, rfl⟩
    rw [O2.out]
    go_wp2
    go_ret
    exact ⟨ret_int H.out.symm, rfl⟩

end Go.Proofs.Ytonlfgldhnkcgaa
