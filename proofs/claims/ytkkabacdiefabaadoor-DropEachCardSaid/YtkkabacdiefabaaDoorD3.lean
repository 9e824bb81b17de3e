/- Walks of drop.Men and of the reference's. -/
import Derived.Test.YtkkabacdiefabaaDoorD1
import Derived.Deep.RegionHeld3
namespace Go.Proofs.YtkkabacdiefabaaDoor
open Go Go.RowKit
set_option linter.unusedVariables false

def menI (n : Nat → Int) : Int := (cntB (allN n) : Int) + hldI n 0 + hldI n 1
theorem all_bit (n : Nat → Int) (j : Nat) (hj : j < 64) : (allN n).getLsbD j = isB (n (1 + j)) := by
  rw [← hasB_nat (allN n) j hj]
  unfold allN
  rw [has_set, decide_eq_true (by omega), Bool.true_and, Bool.and_true, Int.toNat_natCast]
theorem knd_zero (x : Int) : (kndI x != 0) = isB x := by
  cases h : isB x with
  | true =>
    rw [isB_iff] at h
    unfold kndI
    rw [bne, beq_eq_false_iff_ne.2 (by repeat (first | omega | split))]; rfl
  | false =>
    rw [isB_no] at h
    unfold kndI
    rw [if_neg (by omega), if_neg (by omega)]; rfl
set_option maxHeartbeats 1600000 in
theorem men_any (n : Nat → Int) (hn : PosOk n) (w : World) : Calls Tryd.prog 15 #[.agg (posA n)] w fun e w' => e = .returned (.int .i64 (menI n)) ∧ Below w.heap.size w w' := by
  have hm : menI n = (cntB (allN n) : Int) + hldI n 0 + hldI n 1 := rfl
  have hl : cntB (allN n) ≤ 64 := listB_length _
  obtain ⟨a0, a1⟩ := hldI_bd n hn 0
  obtain ⟨b0, b1⟩ := hldI_bd n hn 1
  obtain ⟨a, ha⟩ : ∃ a, hldI n 0 = a := ⟨_, rfl⟩
  obtain ⟨b, hb⟩ : ∃ b, hldI n 1 = b := ⟨_, rfl⟩
  obtain ⟨c, hc⟩ : ∃ c, cntB (allN n) = c := ⟨_, rfl⟩
  have F0 : Hid (∀ W, Calls Tryd.prog 13 #[.agg (posA n), .int .u8 0] W fun e w' => e = .returned (.int .i64 a) ∧ Below W.heap.size W w') := fun W => by
    have := held15_0 n hn W
    rwa [ha] at this
  have F1 : Hid (∀ W, Calls Tryd.prog 13 #[.agg (posA n), .int .u8 1] W fun e w' => e = .returned (.int .i64 b) ∧ Below W.heap.size W w') := fun W => by
    have := held15_1 n hn W
    rwa [hb] at this
  have F2 : Hid (∀ W, Calls Tryd.prog 20 #[.agg (posA n)] W fun e w' => e = .returned (.int .u64 (u (allN n))) ∧ Below W.heap.size W w') := fun W => ball_any n hn W
  have F3 : Hid (∀ W, Calls Tryd.prog 24 #[.int .u64 (u (allN n))] W fun e w' => e = .returned (.int .i64 (c : Int)) ∧ W = w') := fun W => by
    have := count_any (allN n) rfl W
    rwa [hc] at this
  rw [ha, hb, hc] at hm
  rw [ha] at a0 a1
  rw [hb] at b0 b1
  rw [hc] at hl
  have HM := hideIt hm
  clear hm ha hb hc
  generalize allN n = al at F2 F3
  obtain ⟨X, hX⟩ : ∃ X, w.alloc (.cells (posA n) 31) = X := ⟨_, rfl⟩
  obtain ⟨p0, hb⟩ := box1 w n X hX
  have HX := hideIt hX
  have HP := hideIt p0
  clear hX p0
  go_enter Tryd.func15, Tryd.ntmps15
  go_wp2_with (rw [HX.out])
  have W1 := IntWalk.i64_in ((c : Int) + a) (by omega)
  have W2 := IntWalk.i64_in ((c : Int) + a + b) (by omega)
  go_region_held3 (fun W => (IsPos W w.heap.size ∧ rowOf W w.heap.size = posA n) ∧ Below X.heap.size X W) ((refine keepP HP.out ?_; repeat (first | exact Below.refl _ _ | assumption | refine bl_drew ?_ | refine bl_new ?_ (Nat.le_refl _) | refine bl_then ?_ (by assumption)))) ((first | (go_at_call 20; refine (F2.out _).mono ?_; rintro e w31 ⟨rfl, h1⟩) | (go_at_call 24; refine (F3.out _).mono ?_; rintro e w31 ⟨rfl, rfl⟩) | (go_at_call_of 13 (Value.int IntKind.u8 0); refine (F0.out _).mono ?_; rintro e w31 ⟨rfl, h1⟩) | (go_at_call_of 13 (Value.int IntKind.u8 1); refine (F1.out _).mono ?_; rintro e w31 ⟨rfl, h1⟩)))
  all_goals
    have hq := And.right ‹(IsPos _ _ ∧ _) ∧ Below X.heap.size X _›
    go_wp2
    go_ret
    exact ⟨ret_int HM.out.symm, hb.trans (hq.mono hb.size)⟩
set_option maxHeartbeats 1600000 in
theorem rmen_any (n : Nat → Int) (hn : PosOk n) (w : World) : Calls Tryd.prog 16 #[.agg (posA n)] w fun e w' => e = .returned (.int .i64 (menI n)) ∧ Below w.heap.size w w' := by
  have hm : menI n = ((listN (allN n) 64).length : Int) + hldI n 0 + hldI n 1 := by
    unfold menI cntB listB; rw [List.length_map]
  obtain ⟨a0, a1⟩ := hldI_bd n hn 0
  obtain ⟨b0, b1⟩ := hldI_bd n hn 1
  obtain ⟨a, ha⟩ : ∃ a, hldI n 0 = a := ⟨_, rfl⟩
  obtain ⟨b, hb⟩ : ∃ b, hldI n 1 = b := ⟨_, rfl⟩
  have F0 : Hid (∀ W, Calls Tryd.prog 14 #[.agg (posA n), .int .u8 0] W fun e w' => e = .returned (.int .i64 a) ∧ Below W.heap.size W w') := fun W => by
    have := rheld15_0 n hn W
    rwa [ha] at this
  have F1 : Hid (∀ W, Calls Tryd.prog 14 #[.agg (posA n), .int .u8 1] W fun e w' => e = .returned (.int .i64 b) ∧ Below W.heap.size W w') := fun W => by
    have := rheld15_1 n hn W
    rwa [hb] at this
  rw [ha, hb] at hm
  rw [ha] at a0 a1
  rw [hb] at b0 b1
  have HM := hideIt hm
  clear hm ha hb
  obtain ⟨X, hX⟩ : ∃ X, w.alloc (.cells (posA n) 31) = X := ⟨_, rfl⟩
  obtain ⟨p0, hb⟩ := box1 w n X hX
  have HX := hideIt hX
  have HP := hideIt p0
  clear hX p0
  go_enter Tryd.func16, Tryd.ntmps16
  go_wp2_with (rw [HX.out])
  have W1 := IntWalk.i64_in (a + b) (by omega)
  go_region_held3 (fun W => (IsPos W w.heap.size ∧ rowOf W w.heap.size = posA n) ∧ Below X.heap.size X W) ((refine keepP HP.out ?_; repeat (first | exact Below.refl _ _ | assumption | refine bl_drew ?_ | refine bl_new ?_ (Nat.le_refl _) | refine bl_then ?_ (by assumption)))) ((first | (go_at_call_of 14 (Value.int IntKind.u8 0); refine (F0.out _).mono ?_; rintro e w31 ⟨rfl, h1⟩) | (go_at_call_of 14 (Value.int IntKind.u8 1); refine (F1.out _).mono ?_; rintro e w31 ⟨rfl, h1⟩)))
  all_goals
    have hq := And.right ‹(IsPos _ _ ∧ _) ∧ Below X.heap.size X _›
    have HPW := hideIt (HP.out.below hq HP.out.lt)
    have hbW := hb.trans (hq.mono hb.size)
    clear W1 F0 F1
    go_wp2
    go_loop [3, 4] (fun v i => ∃ k : Nat, k ≤ 64 ∧ i = .int .i64 k ∧ v = .int .i64 (a + b + ((listN (allN n) k).length : Int))) (fun _ i => 64 - (intOf i).toNat)
    case atStart => exact ⟨0, by omega, rfl, by show _ = Value.int IntKind.i64 (a + b + 0); rw [Int.add_zero]⟩
    case round =>
      obtain ⟨k, hk, rfl, rfl⟩ := hrel
      have hll : (listN (allN n) k).length ≤ 64 := by
        have h := List.length_filter_le (fun k => (allN n).getLsbD k) (List.range k)
        rw [List.length_range] at h
        exact Nat.le_trans h hk
      by_cases hlt : k < 64
      · have cc := HPW.out.board (1 + k) (by omega)
        obtain ⟨x0, x1⟩ := hn.u8 (1 + k) (by omega) (kind_board (by omega))
        have hbit := all_bit n k hlt
        have hz := knd_zero (n (1 + k))
        obtain ⟨x, hx⟩ : ∃ x, n (1 + k) = x := ⟨_, rfl⟩
        rw [hx] at cc x0 x1 hbit hz
        clear hx
        cases hi : isB x with
        | true =>
          rw [hi] at hbit hz
          have HL := hideIt (show (listN (allN n) (k + 1)).length = (listN (allN n) k).length + 1 by rw [listN_succ_yes _ _ hbit, List.length_append]; rfl)
          clear hbit hi
          generalize (listN (allN n) k).length = m at HL hll ⊢
          go_wp2_with fail
          refine (k8_any x x0 x1 _).mono ?_
          rintro e w3 ⟨rfl, rfl⟩
          go_wp2
          go_round
          case rel => exact ⟨k + 1, by omega, by go_num, by rw [HL.out]; congr 1; omega⟩
          case measure => simp [intOf]; omega
        | false =>
          rw [hi] at hbit hz
          have HL := hideIt (show (listN (allN n) (k + 1)).length = (listN (allN n) k).length by rw [listN_succ_no _ _ hbit])
          clear hbit hi
          generalize (listN (allN n) k).length = m at HL hll ⊢
          go_wp2_with fail
          refine (k8_any x x0 x1 _).mono ?_
          rintro e w3 ⟨rfl, rfl⟩
          go_wp2
          go_round
          case rel => exact ⟨k + 1, by omega, by go_num, by rw [HL.out]⟩
          case measure => simp [intOf]; omega
      · obtain rfl : k = 64 := by omega
        go_wp2
        go_ret
        exact ⟨ret_int (by rw [HM.out]; omega), hbW⟩

end Go.Proofs.YtkkabacdiefabaaDoor
