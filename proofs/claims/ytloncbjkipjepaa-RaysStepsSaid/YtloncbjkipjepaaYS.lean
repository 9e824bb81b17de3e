/- Walks of the reference of rays: King, Knight, Pawn. -/
import Derived.Test.YtloncbjkipjepaaYR
namespace Go.Proofs.Ytloncbjkipjepaa
open Go Go.RowKit

set_option maxHeartbeats 800000 in
theorem rking_any (s : Int) (w : World) :
    Calls Try.prog 14 #[.int .i64 s] w fun e w' => e = .returned (.int .u64 (u (kingB s))) ∧ w = w' := by
  have HE := hideIt (king_sel s)
  go_enter Try.func14, Try.ntmps14
  go_wp2
  go_loop [3, 4] (fun x i => ∃ k : Nat, k ≤ 64 ∧ i = .int .i64 k ∧ x = .int .u64 (u (selB (kinP s) k))) (fun _ i => 64 - (intOf i).toNat)
  case atStart => exact ⟨0, by omega, rfl, rfl⟩
  case round =>
    obtain ⟨k, hk, rfl, rfl⟩ := hrel
    by_cases hlt : k < 64
    · cases hp : kinP s k with
      | true =>
        have z : (distI s k == 1) = true := hp
        have HS := hideIt (selB_yes (kinP s) k hp)
        clear hp
        go_wp2_with fail
        refine (rDistance_any s k _).mono ?_
        rintro e w3 ⟨rfl, rfl⟩
        go_wp2_with fail
        refine (rput_any _ rfl k _).mono ?_
        rintro e w3 ⟨rfl, rfl⟩
        go_wp2
        go_round
        case rel => exact ⟨k + 1, by omega, by go_num, by rw [HS.out]⟩
        case measure => simp [intOf]; omega
      | false =>
        have z : (distI s k == 1) = false := hp
        have HS := hideIt (selB_no (kinP s) k hp)
        clear hp
        go_wp2_with fail
        refine (rDistance_any s k _).mono ?_
        rintro e w3 ⟨rfl, rfl⟩
        go_wp2
        go_round
        case rel => exact ⟨k + 1, by omega, by go_num, by rw [HS.out]⟩
        case measure => simp [intOf]; omega
    · obtain rfl : k = 64 := by omega
      go_wp2
      go_ret
      exact ⟨ret_u HE.out, rfl⟩

theorem file_bd (s : Int) : -1 ≤ fileI s ∧ fileI s ≤ 63 := by unfold fileI; split <;> omega
theorem rank_bd (s : Int) : -1 ≤ rankI s ∧ rankI s ≤ 63 := by unfold rankI; split <;> omega

set_option maxHeartbeats 1600000 in
theorem rknight_any (s : Int) (w : World) :
    Calls Try.prog 16 #[.int .i64 s] w fun e w' => e = .returned (.int .u64 (u (knightB s))) ∧ w = w' := by
  by_cases h : 0 ≤ s ∧ s < 64
  · have HE := hideIt (knight_sel h)
    go_enter Try.func16, Try.ntmps16
    go_wp2
    go_loop [3, 4] (fun x i => ∃ k : Nat, k ≤ 64 ∧ i = .int .i64 k ∧ x = .int .u64 (u (selB (kniP s) k))) (fun _ i => 64 - (intOf i).toNat)
    case atStart => exact ⟨0, by omega, rfl, rfl⟩
    case round =>
      obtain ⟨k, hk, rfl, rfl⟩ := hrel
      by_cases hlt : k < 64
      · cases a1 : (apI (fileI s) (fileI k) == 2) with
        | true =>
          have a3 : (apI (fileI s) (fileI k) == 1) = false := by rw [beq_iff_eq] at a1; rw [a1]; rfl
          cases a2 : (apI (rankI s) (rankI k) == 1) with
          | true =>
            have HS := hideIt (selB_yes (kniP s) k (by unfold kniP; rw [a1, a2]; rfl))
            go_wp2_with fail
            refine (rsq_yes s h _).mono ?_
            rintro e w3 ⟨rfl, rfl⟩
            go_wp2_with fail
            refine (rFile_any s _).mono ?_
            rintro e w3 ⟨rfl, rfl⟩
            go_wp2_with fail
            refine (rFile_any k _).mono ?_
            rintro e w3 ⟨rfl, rfl⟩
            go_wp2_with fail
            refine (rap_any _ _ (file_bd s) (file_bd k) _).mono ?_
            rintro e w3 ⟨rfl, rfl⟩
            go_wp2_with fail
            refine (rRank_any s _).mono ?_
            rintro e w3 ⟨rfl, rfl⟩
            go_wp2_with fail
            refine (rRank_any k _).mono ?_
            rintro e w3 ⟨rfl, rfl⟩
            go_wp2_with fail
            refine (rap_any _ _ (rank_bd s) (rank_bd k) _).mono ?_
            rintro e w3 ⟨rfl, rfl⟩
            go_wp2_with fail
            refine (rput_any _ rfl k _).mono ?_
            rintro e w3 ⟨rfl, rfl⟩
            go_wp2
            go_round
            case rel => exact ⟨k + 1, by omega, by go_num, by rw [HS.out]⟩
            case measure => simp [intOf]; omega
          | false =>
            have HS := hideIt (selB_no (kniP s) k (by unfold kniP; rw [a1, a2, a3]; rfl))
            go_wp2_with fail
            refine (rsq_yes s h _).mono ?_
            rintro e w3 ⟨rfl, rfl⟩
            go_wp2_with fail
            refine (rFile_any s _).mono ?_
            rintro e w3 ⟨rfl, rfl⟩
            go_wp2_with fail
            refine (rFile_any k _).mono ?_
            rintro e w3 ⟨rfl, rfl⟩
            go_wp2_with fail
            refine (rap_any _ _ (file_bd s) (file_bd k) _).mono ?_
            rintro e w3 ⟨rfl, rfl⟩
            go_wp2_with fail
            refine (rRank_any s _).mono ?_
            rintro e w3 ⟨rfl, rfl⟩
            go_wp2_with fail
            refine (rRank_any k _).mono ?_
            rintro e w3 ⟨rfl, rfl⟩
            go_wp2_with fail
            refine (rap_any _ _ (rank_bd s) (rank_bd k) _).mono ?_
            rintro e w3 ⟨rfl, rfl⟩
            go_wp2
            go_round
            case rel => exact ⟨k + 1, by omega, by go_num, by rw [HS.out]⟩
            case measure => simp [intOf]; omega
        | false =>
          cases a3 : (apI (fileI s) (fileI k) == 1) with
          | true =>
            cases a4 : (apI (rankI s) (rankI k) == 2) with
            | true =>
              have HS := hideIt (selB_yes (kniP s) k (by unfold kniP; rw [a1, a3, a4]; rfl))
              go_wp2_with fail
              refine (rsq_yes s h _).mono ?_
              rintro e w3 ⟨rfl, rfl⟩
              go_wp2_with fail
              refine (rFile_any s _).mono ?_
              rintro e w3 ⟨rfl, rfl⟩
              go_wp2_with fail
              refine (rFile_any k _).mono ?_
              rintro e w3 ⟨rfl, rfl⟩
              go_wp2_with fail
              refine (rap_any _ _ (file_bd s) (file_bd k) _).mono ?_
              rintro e w3 ⟨rfl, rfl⟩
              go_wp2_with fail
              refine (rRank_any s _).mono ?_
              rintro e w3 ⟨rfl, rfl⟩
              go_wp2_with fail
              refine (rRank_any k _).mono ?_
              rintro e w3 ⟨rfl, rfl⟩
              go_wp2_with fail
              refine (rap_any _ _ (rank_bd s) (rank_bd k) _).mono ?_
              rintro e w3 ⟨rfl, rfl⟩
              go_wp2_with fail
              refine (rput_any _ rfl k _).mono ?_
              rintro e w3 ⟨rfl, rfl⟩
              go_wp2
              go_round
              case rel => exact ⟨k + 1, by omega, by go_num, by rw [HS.out]⟩
              case measure => simp [intOf]; omega
            | false =>
              have HS := hideIt (selB_no (kniP s) k (by unfold kniP; rw [a1, a3, a4]; rfl))
              go_wp2_with fail
              refine (rsq_yes s h _).mono ?_
              rintro e w3 ⟨rfl, rfl⟩
              go_wp2_with fail
              refine (rFile_any s _).mono ?_
              rintro e w3 ⟨rfl, rfl⟩
              go_wp2_with fail
              refine (rFile_any k _).mono ?_
              rintro e w3 ⟨rfl, rfl⟩
              go_wp2_with fail
              refine (rap_any _ _ (file_bd s) (file_bd k) _).mono ?_
              rintro e w3 ⟨rfl, rfl⟩
              go_wp2_with fail
              refine (rRank_any s _).mono ?_
              rintro e w3 ⟨rfl, rfl⟩
              go_wp2_with fail
              refine (rRank_any k _).mono ?_
              rintro e w3 ⟨rfl, rfl⟩
              go_wp2_with fail
              refine (rap_any _ _ (rank_bd s) (rank_bd k) _).mono ?_
              rintro e w3 ⟨rfl, rfl⟩
              go_wp2
              go_round
              case rel => exact ⟨k + 1, by omega, by go_num, by rw [HS.out]⟩
              case measure => simp [intOf]; omega
          | false =>
            have HS := hideIt (selB_no (kniP s) k (by unfold kniP; rw [a1, a3]; rfl))
            go_wp2_with fail
            refine (rsq_yes s h _).mono ?_
            rintro e w3 ⟨rfl, rfl⟩
            go_wp2_with fail
            refine (rFile_any s _).mono ?_
            rintro e w3 ⟨rfl, rfl⟩
            go_wp2_with fail
            refine (rFile_any k _).mono ?_
            rintro e w3 ⟨rfl, rfl⟩
            go_wp2_with fail
            refine (rap_any _ _ (file_bd s) (file_bd k) _).mono ?_
            rintro e w3 ⟨rfl, rfl⟩
            go_wp2_with fail
            refine (rRank_any s _).mono ?_
            rintro e w3 ⟨rfl, rfl⟩
            go_wp2_with fail
            refine (rRank_any k _).mono ?_
            rintro e w3 ⟨rfl, rfl⟩
            go_wp2_with fail
            refine (rap_any _ _ (rank_bd s) (rank_bd k) _).mono ?_
            rintro e w3 ⟨rfl, rfl⟩
            go_wp2
            go_round
            case rel => exact ⟨k + 1, by omega, by go_num, by rw [HS.out]⟩
            case measure => simp [intOf]; omega
      · obtain rfl : k = 64 := by omega
        go_wp2
        go_ret
        exact ⟨ret_u HE.out, rfl⟩
  · have HE := hideIt (knightB_none h)
    go_enter Try.func16, Try.ntmps16
    go_wp2
    refine wp_loop_rounds 1 ?_
    rw [rounds_succ]
    go_wp2_with fail
    refine (rsq_no s h _).mono ?_
    rintro e w3 ⟨rfl, rfl⟩
    go_wp2
    go_ret
    exact ⟨ret_u HE.out.symm, rfl⟩

set_option maxHeartbeats 1600000 in
theorem rpawn_0 (s : Int) (h : 0 ≤ s ∧ s < 64) (w : World) :
    Calls Try.prog 18 #[.int .u8 0, .int .i64 s] w fun e w' => e = .returned (.int .u64 (u (pawnB 0 s))) ∧ w = w' := by
  have HE := hideIt (pawn0_sel h)
  have b0 := (rank_bd s).1
  have b1 := (rank_bd s).2
  go_enter Try.func18, Try.ntmps18
  go_wp2
  go_loop [6, 7] (fun x i => ∃ k : Nat, k ≤ 64 ∧ i = .int .i64 k ∧ x = .int .u64 (u (selB (pawP 1 s) k))) (fun _ i => 64 - (intOf i).toNat)
  case atStart => exact ⟨0, by omega, rfl, rfl⟩
  case round =>
    obtain ⟨k, hk, rfl, rfl⟩ := hrel
    by_cases hlt : k < 64
    · cases a1 : (apI (fileI s) (fileI k) == 1) with
      | true =>
        cases a2 : (rankI k == rankI s + 1) with
        | true =>
          have HS := hideIt (selB_yes (pawP 1 s) k (by have a2' : (rankI k == rankI s + 1) = true := a2; unfold pawP; rw [a1, a2']; rfl))
          go_wp2_with fail
          refine (rsq_yes s h _).mono ?_
          rintro e w3 ⟨rfl, rfl⟩
          go_wp2_with fail
          refine (rFile_any s _).mono ?_
          rintro e w3 ⟨rfl, rfl⟩
          go_wp2_with fail
          refine (rFile_any k _).mono ?_
          rintro e w3 ⟨rfl, rfl⟩
          go_wp2_with fail
          refine (rap_any _ _ (file_bd s) (file_bd k) _).mono ?_
          rintro e w3 ⟨rfl, rfl⟩
          go_wp2_with fail
          refine (rRank_any k _).mono ?_
          rintro e w3 ⟨rfl, rfl⟩
          go_wp2_with fail
          refine (rRank_any s _).mono ?_
          rintro e w3 ⟨rfl, rfl⟩
          go_wp2_with fail
          refine (rput_any _ rfl k _).mono ?_
          rintro e w3 ⟨rfl, rfl⟩
          go_wp2
          go_round
          case rel => exact ⟨k + 1, by omega, by go_num, by rw [HS.out]⟩
          case measure => simp [intOf]; omega
        | false =>
          have HS := hideIt (selB_no (pawP 1 s) k (by have a2' : (rankI k == rankI s + 1) = false := a2; unfold pawP; rw [a1, a2']; rfl))
          go_wp2_with fail
          refine (rsq_yes s h _).mono ?_
          rintro e w3 ⟨rfl, rfl⟩
          go_wp2_with fail
          refine (rFile_any s _).mono ?_
          rintro e w3 ⟨rfl, rfl⟩
          go_wp2_with fail
          refine (rFile_any k _).mono ?_
          rintro e w3 ⟨rfl, rfl⟩
          go_wp2_with fail
          refine (rap_any _ _ (file_bd s) (file_bd k) _).mono ?_
          rintro e w3 ⟨rfl, rfl⟩
          go_wp2_with fail
          refine (rRank_any k _).mono ?_
          rintro e w3 ⟨rfl, rfl⟩
          go_wp2_with fail
          refine (rRank_any s _).mono ?_
          rintro e w3 ⟨rfl, rfl⟩
          go_wp2
          go_round
          case rel => exact ⟨k + 1, by omega, by go_num, by rw [HS.out]⟩
          case measure => simp [intOf]; omega
      | false =>
        have HS := hideIt (selB_no (pawP 1 s) k (by unfold pawP; rw [a1]; rfl))
        go_wp2_with fail
        refine (rsq_yes s h _).mono ?_
        rintro e w3 ⟨rfl, rfl⟩
        go_wp2_with fail
        refine (rFile_any s _).mono ?_
        rintro e w3 ⟨rfl, rfl⟩
        go_wp2_with fail
        refine (rFile_any k _).mono ?_
        rintro e w3 ⟨rfl, rfl⟩
        go_wp2_with fail
        refine (rap_any _ _ (file_bd s) (file_bd k) _).mono ?_
        rintro e w3 ⟨rfl, rfl⟩
        go_wp2
        go_round
        case rel => exact ⟨k + 1, by omega, by go_num, by rw [HS.out]⟩
        case measure => simp [intOf]; omega
    · obtain rfl : k = 64 := by omega
      go_wp2
      go_ret
      exact ⟨ret_u HE.out, rfl⟩

set_option maxHeartbeats 1600000 in
theorem rpawn_1 (s : Int) (h : 0 ≤ s ∧ s < 64) (w : World) :
    Calls Try.prog 18 #[.int .u8 1, .int .i64 s] w fun e w' => e = .returned (.int .u64 (u (pawnB 1 s))) ∧ w = w' := by
  have HE := hideIt (pawn1_sel h)
  have b0 := (rank_bd s).1
  have b1 := (rank_bd s).2
  go_enter Try.func18, Try.ntmps18
  go_wp2
  go_loop [6, 7] (fun x i => ∃ k : Nat, k ≤ 64 ∧ i = .int .i64 k ∧ x = .int .u64 (u (selB (pawP (-1) s) k))) (fun _ i => 64 - (intOf i).toNat)
  case atStart => exact ⟨0, by omega, rfl, rfl⟩
  case round =>
    obtain ⟨k, hk, rfl, rfl⟩ := hrel
    by_cases hlt : k < 64
    · cases a1 : (apI (fileI s) (fileI k) == 1) with
      | true =>
        cases a2 : (rankI k == rankI s - 1) with
        | true =>
          have HS := hideIt (selB_yes (pawP (-1) s) k (by have a2' : (rankI k == rankI s + (-1)) = true := a2; unfold pawP; rw [a1, a2']; rfl))
          go_wp2_with fail
          refine (rsq_yes s h _).mono ?_
          rintro e w3 ⟨rfl, rfl⟩
          go_wp2_with fail
          refine (rFile_any s _).mono ?_
          rintro e w3 ⟨rfl, rfl⟩
          go_wp2_with fail
          refine (rFile_any k _).mono ?_
          rintro e w3 ⟨rfl, rfl⟩
          go_wp2_with fail
          refine (rap_any _ _ (file_bd s) (file_bd k) _).mono ?_
          rintro e w3 ⟨rfl, rfl⟩
          go_wp2_with fail
          refine (rRank_any k _).mono ?_
          rintro e w3 ⟨rfl, rfl⟩
          go_wp2_with fail
          refine (rRank_any s _).mono ?_
          rintro e w3 ⟨rfl, rfl⟩
          go_wp2_with fail
          refine (rput_any _ rfl k _).mono ?_
          rintro e w3 ⟨rfl, rfl⟩
          go_wp2
          go_round
          case rel => exact ⟨k + 1, by omega, by go_num, by rw [HS.out]⟩
          case measure => simp [intOf]; omega
        | false =>
          have HS := hideIt (selB_no (pawP (-1) s) k (by have a2' : (rankI k == rankI s + (-1)) = false := a2; unfold pawP; rw [a1, a2']; rfl))
          go_wp2_with fail
          refine (rsq_yes s h _).mono ?_
          rintro e w3 ⟨rfl, rfl⟩
          go_wp2_with fail
          refine (rFile_any s _).mono ?_
          rintro e w3 ⟨rfl, rfl⟩
          go_wp2_with fail
          refine (rFile_any k _).mono ?_
          rintro e w3 ⟨rfl, rfl⟩
          go_wp2_with fail
          refine (rap_any _ _ (file_bd s) (file_bd k) _).mono ?_
          rintro e w3 ⟨rfl, rfl⟩
          go_wp2_with fail
          refine (rRank_any k _).mono ?_
          rintro e w3 ⟨rfl, rfl⟩
          go_wp2_with fail
          refine (rRank_any s _).mono ?_
          rintro e w3 ⟨rfl, rfl⟩
          go_wp2
          go_round
          case rel => exact ⟨k + 1, by omega, by go_num, by rw [HS.out]⟩
          case measure => simp [intOf]; omega
      | false =>
        have HS := hideIt (selB_no (pawP (-1) s) k (by unfold pawP; rw [a1]; rfl))
        go_wp2_with fail
        refine (rsq_yes s h _).mono ?_
        rintro e w3 ⟨rfl, rfl⟩
        go_wp2_with fail
        refine (rFile_any s _).mono ?_
        rintro e w3 ⟨rfl, rfl⟩
        go_wp2_with fail
        refine (rFile_any k _).mono ?_
        rintro e w3 ⟨rfl, rfl⟩
        go_wp2_with fail
        refine (rap_any _ _ (file_bd s) (file_bd k) _).mono ?_
        rintro e w3 ⟨rfl, rfl⟩
        go_wp2
        go_round
        case rel => exact ⟨k + 1, by omega, by go_num, by rw [HS.out]⟩
        case measure => simp [intOf]; omega
    · obtain rfl : k = 64 := by omega
      go_wp2
      go_ret
      exact ⟨ret_u HE.out, rfl⟩

set_option maxHeartbeats 800000 in
theorem rpawn_off (c s : Int) (h : ¬ (0 ≤ s ∧ s < 64)) (w : World) :
    Calls Try.prog 18 #[.int .u8 c, .int .i64 s] w fun e w' => e = .returned (.int .u64 (u (pawnB c s))) ∧ w = w' := by
  have HE := hideIt (pawnB_none c h)
  cases c1 : (c == 1)
  all_goals
    go_enter Try.func18, Try.ntmps18
    go_wp2
    refine wp_loop_rounds 1 ?_
    rw [rounds_succ]
    go_wp2_with fail
    refine (rsq_no s h _).mono ?_
    rintro e w3 ⟨rfl, rfl⟩
    go_wp2
    go_ret
    exact ⟨ret_u HE.out.symm, rfl⟩
set_option maxHeartbeats 800000 in
theorem rpawn_col (c s : Int) (h : 0 ≤ s ∧ s < 64) (hc : 1 < c) (w : World) :
    Calls Try.prog 18 #[.int .u8 c, .int .i64 s] w fun e w' => e = .returned (.int .u64 (u (pawnB c s))) ∧ w = w' := by
  have HE := hideIt (show pawnB c s = 0#64 by unfold pawnB; rw [if_neg (by omega), if_neg (by omega)])
  have c1 : (c == 1) = false := by rw [beq_eq_false_iff_ne]; omega
  go_enter Try.func18, Try.ntmps18
  go_wp2
  refine wp_loop_rounds 1 ?_
  rw [rounds_succ]
  go_wp2_with fail
  refine (rsq_yes s h _).mono ?_
  rintro e w3 ⟨rfl, rfl⟩
  go_wp2
  go_ret
  exact ⟨ret_u HE.out.symm, rfl⟩
theorem rpawn_any (c s : Int) (hc : 0 ≤ c) (w : World) :
    Calls Try.prog 18 #[.int .u8 c, .int .i64 s] w fun e w' => e = .returned (.int .u64 (u (pawnB c s))) ∧ w = w' := by
  by_cases h : 0 ≤ s ∧ s < 64
  · have : c = 0 ∨ c = 1 ∨ 1 < c := by omega
    rcases this with rfl | rfl | h1
    · exact rpawn_0 s h w
    · exact rpawn_1 s h w
    · exact rpawn_col c s h h1 w
  · exact rpawn_off c s h w

end Go.Proofs.Ytloncbjkipjepaa
