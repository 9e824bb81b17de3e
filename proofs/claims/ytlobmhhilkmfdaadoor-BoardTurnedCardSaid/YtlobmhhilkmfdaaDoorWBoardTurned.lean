/- The walk of BoardTurned. -/
import Derived.Test.YtlobmhhilkmfdaaDoorPT
import Derived.Deep.RegionHeld3
namespace Go.Proofs.YtlobmhhilkmfdaaDoor
open Go Go.RowKit

theorem tkeep2 {X W : World} {g q : Nat} {n m : Nat → Int} (h : PosAt X g n) (k : PosAt X q m) (hb : Below X.heap.size X W) : (IsPos W g ∧ rowOf W g = posA n) ∧ (IsPos W q ∧ rowOf W q = posA m) ∧ Below X.heap.size X W := ⟨(h.below hb h.lt).rules, (k.below hb k.lt).rules, hb⟩

set_option maxRecDepth 100000 in
set_option maxHeartbeats 8000000 in
theorem boardTurned_walk (n : Nat → Int) (a1 : Int) (w0 : PosOk n) (_w1 : (Lit.int .u8 a1).wf = true) (w : World) (hT : Tab w) :
    Calls Tryd.prog 5 #[.agg (posA n), .int .u8 a1] w fun e w' => e = .returned (.bool true) ∧ Below w.heap.size w w' := by
  obtain ⟨m, hm⟩ : ∃ m, mirN n = m := ⟨_, rfl⟩
  have mOk : PosOk m := by rw [← hm]; exact w0.mir
  have M1 := hideIt hm
  have T1 : ofN m 0 a1 = flipB (ofN n 1 a1) := by rw [← hm]; exact (turn_of n a1).1
  have T2 : ofN m 1 a1 = flipB (ofN n 0 a1) := by rw [← hm]; exact (turn_of n a1).2
  have T3 : allN m = flipB (allN n) := by rw [← hm]; exact turn_all n
  have T4 := hideIt (fun hc : cleanN n 64 = true => (show posA (mirN m) = posA n by rw [← hm]; exact mir_two n w0 hc))
  have E1 := eqP_self n
  obtain ⟨X, hX⟩ : ∃ X, w.alloc (.cells (posA n) 31) = X := ⟨_, rfl⟩
  obtain ⟨p0, hb⟩ := box1 w n X hX
  have HX := hideIt hX
  have hT := hT.below hb (Nat.le_refl _)
  have hzp := zeroPos
  clear hX hm
  go_enter Tryd.func5, Tryd.ntmps5
  go_wp2_with (first | rw [HX.out])
  refine (awake_any _ hT).mono ?_
  rintro e w1 ⟨rfl, h1⟩
  have p0 := p0.below h1 p0.lt
  have hb := hb.trans (h1.mono hb.size)
  clear h1 hT
  obtain ⟨i0, r0⟩ := p0.rules
  go_wp2_with fail
  refine (mirror_any n w0 _).mono ?_
  rw [M1.out]
  rintro e Z ⟨rfl, h1⟩
  have p0 := p0.below h1 p0.lt
  have hb := hb.trans (h1.mono hb.size)
  clear h1 i0 r0
  obtain ⟨V, hV⟩ : ∃ V, (Z.alloc (.cells (posA zeroN) 31)).setRow Z.heap.size (posA m) = V := ⟨_, rfl⟩
  have hV2 : Z.alloc (.cells (posA m) 31) = V := by rw [← hV, World.setRow_alloc_new]
  have pa : PosAt V w.heap.size n := by rw [← hV2]; exact p0.alloc _
  obtain ⟨q, hq⟩ : ∃ q, Z.heap.size = q := ⟨_, rfl⟩
  have pq : PosAt V q m := by rw [← hV2, ← hq]; exact PosAt.new Z m
  have hb : Below w.heap.size w V := by rw [← hV2]; exact hb.alloc hb.size _
  have HV := hideIt hV
  have HQ := hideIt hq
  clear hV hV2 hq p0
  go_wp2_with (first | rw [HV.out, HQ.out])
  go_loop [6, 7] (fun cv iv => ∃ k : Nat, k ≤ 64 ∧ iv = .int .i64 k ∧ cv = .bool (cleanN n k)) (fun _ iv => 64 - (intOf iv).toNat)
  case atStart => exact ⟨0, by omega, rfl, rfl⟩
  case round =>
    obtain ⟨k, hk, rfl, rfl⟩ := hrel
    by_cases hlt : k < 64
    · have S := hideIt (clean_succ n k)
      cases hc : cleanN n k with
      | false =>
        have HC := hideIt hc
        clear hc
        go_wp2
        go_round
        case rel => exact ⟨k + 1, by omega, by go_num, by rw [S.out, HC.out]; rfl⟩
        case measure => simp [intOf]; omega
      | true =>
        have HC := hideIt hc
        clear hc
        have a2 := pa.board (1 + k) (by omega)
        obtain ⟨v0, v1⟩ := w0.u8 (1 + k) (by omega) (kind_board (by omega))
        cases hz : (n (1 + k) == 0) with
        | true =>
          go_wp2
          go_round
          case rel => exact ⟨k + 1, by omega, by go_num, by rw [S.out, HC.out, hz]; rfl⟩
          case measure => simp [intOf]; omega
        | false =>
          go_wp2_with (first | (go_at_call 23; refine (is_any _ v0 v1 _).mono ?_; rintro e w2 ⟨rfl, rfl⟩))
          go_round
          case rel => exact ⟨k + 1, by omega, by go_num, by rw [S.out, HC.out, hz]; rfl⟩
          case measure => simp [intOf]; omega
    · obtain rfl : k = 64 := by omega
      clear HX HV HQ
      cases hc : cleanN n 64 with
      | true =>
        have T4 := T4.out hc
        clear hc
        go_wp2
        go_region_held3 (fun W => (IsPos W w.heap.size ∧ rowOf W w.heap.size = posA n) ∧ (IsPos W q ∧ rowOf W q = posA m) ∧ Below V.heap.size V W) ((refine tkeep2 pa pq ?_; repeat (first | exact Below.refl _ _ | assumption | refine bl_drew ?_ | refine bl_new ?_ (Nat.le_refl _) | refine bl_then ?_ (by assumption)))) ((go_at_call 22; refine (mirror_any m mOk _).mono ?_; rw [T4]; rintro e w31 ⟨rfl, h1⟩))
        all_goals
          have hq := And.right (And.right ‹(IsPos _ _ ∧ _) ∧ (IsPos _ _ ∧ _) ∧ Below V.heap.size V _›)
          go_wp2
          go_region_held3 (fun W => (IsPos W w.heap.size ∧ rowOf W w.heap.size = posA n) ∧ (IsPos W q ∧ rowOf W q = posA m) ∧ Below V.heap.size V W) ((refine tkeep2 pa pq ?_; repeat (first | exact Below.refl _ _ | assumption | refine bl_drew ?_ | refine bl_new ?_ (Nat.le_refl _) | refine bl_then ?_ (by assumption)))) ((first | (go_at_call_of 12 (Value.agg (posA n)); refine (of_any n w0 _ _ _).mono ?_; rintro e w41 ⟨rfl, h1⟩) | (go_at_call_of 12 (Value.agg (posA m)); refine (of_any m mOk _ _ _).mono ?_; rintro e w41 ⟨rfl, h1⟩) | (go_at_call_of 13 (Value.agg (posA n)); refine (ball_any n w0 _).mono ?_; rintro e w41 ⟨rfl, h1⟩) | (go_at_call_of 13 (Value.agg (posA m)); refine (ball_any m mOk _).mono ?_; rintro e w41 ⟨rfl, h1⟩) | (go_at_call 24; refine (flip_any _ rfl _).mono ?_; rintro e w41 ⟨rfl, rfl⟩)))
        all_goals
          have hq2 := And.right (And.right ‹(IsPos _ _ ∧ _) ∧ (IsPos _ _ ∧ _) ∧ Below V.heap.size V _›)
          go_wp2
          go_ret
          exact ⟨rfl, hb.trans (hq2.mono hb.size)⟩
      | false =>
        clear hc T4
        go_wp2
        go_quiet (fail)
        go_wp2
        go_region_held3 (fun W => (IsPos W w.heap.size ∧ rowOf W w.heap.size = posA n) ∧ (IsPos W q ∧ rowOf W q = posA m) ∧ Below V.heap.size V W) ((refine tkeep2 pa pq ?_; repeat (first | exact Below.refl _ _ | exact blN _ _ | assumption | refine bl_drew ?_ | refine bl_new ?_ (Nat.le_refl _) | refine bl_then ?_ (by assumption)))) ((first | (go_at_call_of 12 (Value.agg (posA n)); refine (of_any n w0 _ _ _).mono ?_; rintro e w41 ⟨rfl, h1⟩) | (go_at_call_of 12 (Value.agg (posA m)); refine (of_any m mOk _ _ _).mono ?_; rintro e w41 ⟨rfl, h1⟩) | (go_at_call_of 13 (Value.agg (posA n)); refine (ball_any n w0 _).mono ?_; rintro e w41 ⟨rfl, h1⟩) | (go_at_call_of 13 (Value.agg (posA m)); refine (ball_any m mOk _).mono ?_; rintro e w41 ⟨rfl, h1⟩) | (go_at_call 24; refine (flip_any _ rfl _).mono ?_; rintro e w41 ⟨rfl, rfl⟩)))
        all_goals
          have hq2 := And.right (And.right ‹(IsPos _ _ ∧ _) ∧ (IsPos _ _ ∧ _) ∧ Below V.heap.size V _›)
          go_wp2
          go_ret
          exact ⟨rfl, hb.trans (hq2.mono hb.size)⟩

end Go.Proofs.YtlobmhhilkmfdaaDoor
