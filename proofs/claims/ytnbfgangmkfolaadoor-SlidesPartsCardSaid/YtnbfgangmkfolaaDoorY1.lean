/- Walks of rays. -/
import Derived.Test.YtnbfgangmkfolaaDoorY
import Derived.Test.YtnbfgangmkfolaaDoorB2
import Derived.Test.YtnbfgangmkfolaaDoorS1
namespace Go.Proofs.YtnbfgangmkfolaaDoor
open Go Go.RowKit

theorem steps_0 (s : Int) (v : Option Addr) (c : Nat) (w : World) :
    Calls Tryd.prog 44 #[.int .i64 s, .slice v 0 c] w fun e w' => e = .returned (.int .u64 (u (oneB s))) ∧ Below w.heap.size w w' := by
  go_enter Tryd.func44, Tryd.ntmps44
  go_wp2_with fail
  refine (put_any 0#64 rfl s _).mono ?_
  rintro e w' ⟨rfl, rfl⟩
  go_wp2
  refine wp_loop_rounds 1 ?_
  rw [rounds_succ]
  go_wp2
  go_ret
  exact ⟨ret_u (by unfold putB; simp), Below.refl _ _⟩

theorem steps_1 (s d : Int) (g c : Nat) (w : World) (h0 : w.cell? ⟨g, 0, none⟩ = some (.int .i64 d)) :
    Calls Tryd.prog 44 #[.int .i64 s, .slice (some ⟨g, 0, none⟩) 1 c] w fun e w' => e = .returned (.int .u64 (u (shiftB (oneB s) d))) ∧ Below w.heap.size w w' := by
  have hz := hideIt (show putB 0#64 s = oneB s by unfold putB; simp)
  go_enter Tryd.func44, Tryd.ntmps44
  go_wp2_with fail
  refine (put_any 0#64 rfl s _).mono ?_
  rintro e w' ⟨rfl, rfl⟩
  rw [hz.out]
  go_wp2
  refine wp_loop_rounds 2 ?_
  rw [rounds_succ]
  go_wp2_with fail
  refine (shift_any (oneB s) rfl d _).mono ?_
  rintro e w' ⟨rfl, h1⟩
  go_wp2
  rw [rounds_succ]
  go_wp2
  go_ret
  exact ⟨rfl, h1⟩

theorem steps_2 (s d d2 : Int) (g c : Nat) (w : World) (h0 : w.cell? ⟨g, 0, none⟩ = some (.int .i64 d)) (h2 : w.cell? ⟨g, 1, none⟩ = some (.int .i64 d2)) :
    Calls Tryd.prog 44 #[.int .i64 s, .slice (some ⟨g, 0, none⟩) 2 c] w fun e w' => e = .returned (.int .u64 (u (shiftB (shiftB (oneB s) d) d2))) ∧ Below w.heap.size w w' := by
  have hz := hideIt (show putB 0#64 s = oneB s by unfold putB; simp)
  have hs : g < w.heap.size := World.block_lt_of_cell? _ _ h2
  go_enter Tryd.func44, Tryd.ntmps44
  go_wp2_with fail
  refine (put_any 0#64 rfl s _).mono ?_
  rintro e w' ⟨rfl, rfl⟩
  rw [hz.out]
  go_wp2
  refine wp_loop_rounds 3 ?_
  rw [rounds_succ]
  go_wp2_with fail
  refine (shift_any (oneB s) rfl d _).mono ?_
  rintro e w1 ⟨rfl, h1⟩
  have h2 := (h1.cell (p := ⟨g, 1, none⟩) hs).trans h2
  go_wp2
  rw [rounds_succ]
  go_wp2_with fail
  refine (shift_any (shiftB (oneB s) d) rfl d2 _).mono ?_
  rintro e w3 ⟨rfl, h3⟩
  go_wp2
  rw [rounds_succ]
  go_wp2
  go_ret
  exact ⟨rfl, h1.trans (h3.mono h1.size)⟩

theorem king_1 (s : Int) (d : Int) (B : Nat) (w : World) (hc : w.cell? ⟨B, 0, none⟩ = some (.int .i64 s)) :
    Calls Tryd.prog 43 #[.int .i64 d, .pointer (some ⟨B, 0, none⟩)] w fun e w' => e = .returned (.int .u64 (u (shiftB (oneB s) d))) ∧ Below w.heap.size w w' := by
  have hs : B < w.heap.size := World.block_lt_of_cell? _ _ hc
  go_enter Tryd.func43, Tryd.ntmps43
  go_wp2_with fail
  refine (steps_1 s d _ _ _ (new_cell1 _ _ _)).mono ?_
  rintro e w1 ⟨rfl, h1⟩
  have hb := (Below.refl w.heap.size w).alloc (Nat.le_refl _) (.cells #[.int .i64 d] 3)
  have hb := hb.trans (h1.mono hb.size)
  go_wp2
  go_ret
  exact ⟨rfl, hb⟩

set_option maxHeartbeats 800000 in
theorem each_king (s : Int) (B : Nat) (w : World) (hc : w.cell? ⟨B, 0, none⟩ = some (.int .i64 s)) :
    Calls Tryd.prog 42 #[.func (.func 43) #[] #[.pointer (some ⟨B, 0, none⟩)]] w fun e w' => e = .returned (.int .u64 (u (kingB s))) ∧ Below w.heap.size w w' := by
  have hs : B < w.heap.size := World.block_lt_of_cell? _ _ hc
  go_enter Tryd.func42, Tryd.ntmps42
  go_wp2
  go_loopw [3, 5] (fun b i wr => ∃ k : Nat, k ≤ 8 ∧ i = .int .i64 k ∧ b = .int .u64 (u (kingA s k)) ∧ Below w.heap.size w wr) (fun _ i _ => 8 - (intOf i).toNat)
  case atStart => exact ⟨0, by omega, rfl, rfl, Below.refl _ _⟩
  case round =>
    obtain ⟨k, hk, rfl, rfl, hb⟩ := hrel
    by_cases hlt : k < 8
    · have hc' := (hb.cell (p := ⟨B, 0, none⟩) hs).trans hc
      go_wp2_with fail
      refine (king_1 s k B _ hc').mono ?_
      rintro e w1 ⟨rfl, h1⟩
      have hb := hb.trans (h1.mono hb.size)
      clear h1 hc'
      go_wp2
      go_roundw
      case rel => exact ⟨k + 1, by omega, by go_num, rfl, hb⟩
      case measure => simp [intOf]; omega
    · obtain rfl : k = 8 := by omega
      go_wp2
      go_ret
      exact ⟨rfl, hb⟩

set_option maxHeartbeats 800000 in
theorem king_any (s : Int) (w : World) :
    Calls Tryd.prog 22 #[.int .i64 s] w fun e w' => e = .returned (.int .u64 (u (kingB s))) ∧ Below w.heap.size w w' := by
  go_enter Tryd.func22, Tryd.ntmps22
  go_wp2_with fail
  refine (each_king s _ _ (new_cell1 _ _ _)).mono ?_
  rintro e w1 ⟨rfl, h1⟩
  have hb := (Below.refl w.heap.size w).alloc (Nat.le_refl _) (.cells #[.int .i64 s] 3)
  have hb := hb.trans (h1.mono hb.size)
  clear h1
  go_wp2
  go_ret
  exact ⟨rfl, hb⟩


set_option maxHeartbeats 1600000 in
theorem ray_any (s d : Int) (w : World) :
    Calls Tryd.prog 23 #[.int .i64 s, .int .i64 d] w fun e w' => e = .returned (.int .u64 (u (rayB s d))) ∧ Below w.heap.size w w' := by
  go_enter Tryd.func23, Tryd.ntmps23
  go_wp2_with fail
  refine (steps_1 s d _ _ _ (new_cell1 _ _ _)).mono ?_
  rintro e w1 ⟨rfl, h1⟩
  have hb := (Below.refl w.heap.size w).alloc (Nat.le_refl _) (.cells #[.int .i64 d] 3)
  have hb := hb.trans (h1.mono hb.size)
  clear h1
  rw [show shiftB (oneB s) d = rayX s d 0 from rfl]
  have e0 : bits .or .u64 0 (u (rayX s d 0)) = u (rayA s d 1) := by rw [show (0 : Int) = u 0#64 from rfl, bits_or_u]; rfl
  go_wp2
  refine wp_loop_rounds 8 ?_
  rw [rounds_succ]
  by_cases hk : rayX s d 0 = 0#64
  · have z : (u (rayX s d 0) != 0) = false := by rw [hk]; rfl
    have A := hideIt (rayB_at s d 0 (by omega) hk)
    clear hk
    go_wp2
    go_ret
    exact ⟨ret_u A.out, hb⟩
  · have z : (u (rayX s d 0) != 0) = true := by rw [bne, u_eq_zero, beq_eq_false_iff_ne.2 hk]; rfl
    clear hk
    go_wp2_with fail
    refine (shift_any (rayX s d 0) rfl d _).mono ?_
    rintro e w2 ⟨rfl, h1⟩
    rw [show shiftB (rayX s d 0) d = rayX s d 1 from rfl]
    have hb := hb.trans (h1.mono hb.size)
    clear h1 z
    go_wp2
    rw [rounds_succ]
    by_cases hk : rayX s d 1 = 0#64
    · have z : (u (rayX s d 1) != 0) = false := by rw [hk]; rfl
      have A := hideIt (rayB_at s d 1 (by omega) hk)
      clear hk
      go_wp2
      go_ret
      exact ⟨ret_u A.out, hb⟩
    · have z : (u (rayX s d 1) != 0) = true := by rw [bne, u_eq_zero, beq_eq_false_iff_ne.2 hk]; rfl
      clear hk
      go_wp2_with fail
      refine (shift_any (rayX s d 1) rfl d _).mono ?_
      rintro e w3 ⟨rfl, h1⟩
      rw [show shiftB (rayX s d 1) d = rayX s d 2 from rfl]
      have hb := hb.trans (h1.mono hb.size)
      clear h1 z
      go_wp2
      rw [show rayA s d 1 ||| rayX s d 1 = rayA s d 2 from rfl]
      rw [rounds_succ]
      by_cases hk : rayX s d 2 = 0#64
      · have z : (u (rayX s d 2) != 0) = false := by rw [hk]; rfl
        have A := hideIt (rayB_at s d 2 (by omega) hk)
        clear hk
        go_wp2
        go_ret
        exact ⟨ret_u A.out, hb⟩
      · have z : (u (rayX s d 2) != 0) = true := by rw [bne, u_eq_zero, beq_eq_false_iff_ne.2 hk]; rfl
        clear hk
        go_wp2_with fail
        refine (shift_any (rayX s d 2) rfl d _).mono ?_
        rintro e w4 ⟨rfl, h1⟩
        rw [show shiftB (rayX s d 2) d = rayX s d 3 from rfl]
        have hb := hb.trans (h1.mono hb.size)
        clear h1 z
        go_wp2
        rw [show rayA s d 2 ||| rayX s d 2 = rayA s d 3 from rfl]
        rw [rounds_succ]
        by_cases hk : rayX s d 3 = 0#64
        · have z : (u (rayX s d 3) != 0) = false := by rw [hk]; rfl
          have A := hideIt (rayB_at s d 3 (by omega) hk)
          clear hk
          go_wp2
          go_ret
          exact ⟨ret_u A.out, hb⟩
        · have z : (u (rayX s d 3) != 0) = true := by rw [bne, u_eq_zero, beq_eq_false_iff_ne.2 hk]; rfl
          clear hk
          go_wp2_with fail
          refine (shift_any (rayX s d 3) rfl d _).mono ?_
          rintro e w5 ⟨rfl, h1⟩
          rw [show shiftB (rayX s d 3) d = rayX s d 4 from rfl]
          have hb := hb.trans (h1.mono hb.size)
          clear h1 z
          go_wp2
          rw [show rayA s d 3 ||| rayX s d 3 = rayA s d 4 from rfl]
          rw [rounds_succ]
          by_cases hk : rayX s d 4 = 0#64
          · have z : (u (rayX s d 4) != 0) = false := by rw [hk]; rfl
            have A := hideIt (rayB_at s d 4 (by omega) hk)
            clear hk
            go_wp2
            go_ret
            exact ⟨ret_u A.out, hb⟩
          · have z : (u (rayX s d 4) != 0) = true := by rw [bne, u_eq_zero, beq_eq_false_iff_ne.2 hk]; rfl
            clear hk
            go_wp2_with fail
            refine (shift_any (rayX s d 4) rfl d _).mono ?_
            rintro e w6 ⟨rfl, h1⟩
            rw [show shiftB (rayX s d 4) d = rayX s d 5 from rfl]
            have hb := hb.trans (h1.mono hb.size)
            clear h1 z
            go_wp2
            rw [show rayA s d 4 ||| rayX s d 4 = rayA s d 5 from rfl]
            rw [rounds_succ]
            by_cases hk : rayX s d 5 = 0#64
            · have z : (u (rayX s d 5) != 0) = false := by rw [hk]; rfl
              have A := hideIt (rayB_at s d 5 (by omega) hk)
              clear hk
              go_wp2
              go_ret
              exact ⟨ret_u A.out, hb⟩
            · have z : (u (rayX s d 5) != 0) = true := by rw [bne, u_eq_zero, beq_eq_false_iff_ne.2 hk]; rfl
              clear hk
              go_wp2_with fail
              refine (shift_any (rayX s d 5) rfl d _).mono ?_
              rintro e w7 ⟨rfl, h1⟩
              rw [show shiftB (rayX s d 5) d = rayX s d 6 from rfl]
              have hb := hb.trans (h1.mono hb.size)
              clear h1 z
              go_wp2
              rw [show rayA s d 5 ||| rayX s d 5 = rayA s d 6 from rfl]
              rw [rounds_succ]
              by_cases hk : rayX s d 6 = 0#64
              · have z : (u (rayX s d 6) != 0) = false := by rw [hk]; rfl
                have A := hideIt (rayB_at s d 6 (by omega) hk)
                clear hk
                go_wp2
                go_ret
                exact ⟨ret_u A.out, hb⟩
              · have z : (u (rayX s d 6) != 0) = true := by rw [bne, u_eq_zero, beq_eq_false_iff_ne.2 hk]; rfl
                clear hk
                go_wp2_with fail
                refine (shift_any (rayX s d 6) rfl d _).mono ?_
                rintro e w8 ⟨rfl, h1⟩
                rw [show shiftB (rayX s d 6) d = rayX s d 7 from rfl]
                have hb := hb.trans (h1.mono hb.size)
                clear h1 z
                go_wp2
                rw [show rayA s d 6 ||| rayX s d 6 = rayA s d 7 from rfl]
                rw [rounds_succ]
                have z : (u (rayX s d 7) != 0) = false := by rw [rayX_end]; rfl
                have A := hideIt (rayB_at s d 7 (by omega) (rayX_end s d))
                go_wp2
                go_ret
                exact ⟨ret_u A.out, hb⟩

end Go.Proofs.YtnbfgangmkfolaaDoor
