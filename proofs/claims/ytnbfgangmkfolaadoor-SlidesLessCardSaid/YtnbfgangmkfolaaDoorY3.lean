/- Walks of rays: towards, Between, Line. -/
import Derived.Test.YtnbfgangmkfolaaDoorY1
namespace Go.Proofs.YtnbfgangmkfolaaDoor
open Go Go.RowKit

set_option maxHeartbeats 800000 in
theorem towards_any (a b : Int) (w : World) :
    Calls Tryd.prog 49 #[.int .i64 a, .int .i64 b] w fun e w' => e = .returned (.int .i64 (towI a b)) ∧ Below w.heap.size w w' := by
  go_enter Tryd.func49, Tryd.ntmps49
  go_wp2
  go_loopw [6] (fun i wr => ∃ k : Nat, k ≤ 8 ∧ i = .int .i64 k ∧ Hid (∀ j : Nat, j < k → hasB (rayB a j) b = false) ∧ Below w.heap.size w wr) (fun i _ => 8 - (intOf i).toNat)
  case atStart => exact ⟨0, by omega, rfl, fun j hj => absurd hj (Nat.not_lt_zero j), Below.refl _ _⟩
  case round =>
    obtain ⟨k, hk, rfl, hn, hb⟩ := hrel
    by_cases hlt : k < 8
    · cases hh : hasB (rayB a k) b with
      | true =>
        have K := hideIt (tow_yes a b k hlt hn.out hh)
        go_wp2_with fail
        refine (ray_any a k _).mono ?_
        rintro e w1 ⟨rfl, h1⟩
        have hb := hb.trans (h1.mono hb.size)
        clear h1
        go_wp2_with fail
        refine (has_any (rayB a k) rfl b _).mono ?_
        rintro e w2 ⟨rfl, rfl⟩
        rw [hh]
        go_wp2
        go_ret
        exact ⟨ret_int K.out.symm, hb⟩
      | false =>
        have HN : Hid (∀ j : Nat, j < k + 1 → hasB (rayB a j) b = false) := by
          intro j hj
          by_cases e : j = k
          · subst e; exact hh
          · exact hn.out j (by omega)
        go_wp2_with fail
        refine (ray_any a k _).mono ?_
        rintro e w1 ⟨rfl, h1⟩
        have hb := hb.trans (h1.mono hb.size)
        clear h1
        go_wp2_with fail
        refine (has_any (rayB a k) rfl b _).mono ?_
        rintro e w2 ⟨rfl, rfl⟩
        rw [hh]
        go_wp2
        go_roundw
        case rel => exact ⟨k + 1, by omega, by go_num, HN, hb⟩
        case measure => simp [intOf]; omega
    · obtain rfl : k = 8 := by omega
      have K := hideIt (tow_no a b hn.out)
      go_wp2
      go_ret
      exact ⟨ret_int K.out.symm, hb⟩

set_option maxHeartbeats 800000 in
theorem between_any (a b : Int) (w : World) :
    Calls Tryd.prog 29 #[.int .i64 a, .int .i64 b] w fun e w' => e = .returned (.int .u64 (u (betB a b))) ∧ Below w.heap.size w w' := by
  rcases towI_cases a b with h | ⟨h0, h1⟩
  · have K := hideIt h
    have R := hideIt (show betB a b = 0#64 by unfold betB; rw [if_pos (by omega)])
    clear h
    go_enter Tryd.func29, Tryd.ntmps29
    go_wp2_with fail
    refine (towards_any a b _).mono ?_
    rintro e w1 ⟨rfl, hb⟩
    rw [K.out]
    go_wp2
    go_ret
    exact ⟨ret_u R.out.symm, hb⟩
  · have R := hideIt (show betB a b = rayB a (towI a b) &&& rayB b ((towI a b + 4) % 8) by unfold betB; rw [if_neg (by omega)])
    obtain ⟨d, hd⟩ : ∃ d, towI a b = d := ⟨_, rfl⟩
    rw [hd] at R h0 h1
    have D := hideIt hd
    clear hd
    go_enter Tryd.func29, Tryd.ntmps29
    go_wp2_with fail
    refine (towards_any a b _).mono ?_
    rintro e w1 ⟨rfl, hb⟩
    rw [D.out]
    go_wp2_with fail
    refine (ray_any a d _).mono ?_
    rintro e w2 ⟨rfl, h1⟩
    have hb := hb.trans (h1.mono hb.size)
    clear h1
    go_wp2_with fail
    refine (ray_any b _ _).mono ?_
    rintro e w3 ⟨rfl, h1⟩
    have hb := hb.trans (h1.mono hb.size)
    clear h1
    go_wp2
    go_ret
    exact ⟨ret_u R.out.symm, hb⟩

set_option maxHeartbeats 800000 in
theorem line_any (a b : Int) (w : World) :
    Calls Tryd.prog 33 #[.int .i64 a, .int .i64 b] w fun e w' => e = .returned (.int .u64 (u (lineB a b))) ∧ Below w.heap.size w w' := by
  rcases towI_cases a b with h | ⟨h0, h1⟩
  · have K := hideIt h
    have R := hideIt (show lineB a b = 0#64 by unfold lineB; rw [if_pos (by omega)])
    clear h
    go_enter Tryd.func33, Tryd.ntmps33
    go_wp2_with fail
    refine (towards_any a b _).mono ?_
    rintro e w1 ⟨rfl, hb⟩
    rw [K.out]
    go_wp2
    go_ret
    exact ⟨ret_u R.out.symm, hb⟩
  · obtain ⟨d, hd⟩ : ∃ d, towI a b = d := ⟨_, rfl⟩
    rw [hd] at h0 h1
    by_cases hz : distI a b < 1
    · have R := hideIt (show lineB a b = 0#64 by unfold lineB; rw [if_neg (by omega), if_pos hz])
      have D := hideIt hd
      clear hd
      go_enter Tryd.func33, Tryd.ntmps33
      go_wp2_with fail
      refine (towards_any a b _).mono ?_
      rintro e w1 ⟨rfl, hb⟩
      rw [D.out]
      go_wp2_with fail
      refine (sDistance_any a b _).mono ?_
      rintro e w2 ⟨rfl, h1⟩
      have hb := hb.trans (h1.mono hb.size)
      clear h1
      go_wp2
      go_ret
      exact ⟨ret_u R.out.symm, hb⟩
    · have R := hideIt (show lineB a b = oneB a ||| rayB a d ||| rayB a ((d + 4) % 8) by unfold lineB; rw [if_neg (by omega), if_neg hz, hd])
      have D := hideIt hd
      clear hd
      go_enter Tryd.func33, Tryd.ntmps33
      go_wp2_with fail
      refine (towards_any a b _).mono ?_
      rintro e w1 ⟨rfl, hb⟩
      rw [D.out]
      go_wp2_with fail
      refine (sDistance_any a b _).mono ?_
      rintro e w2 ⟨rfl, h1⟩
      have hb := hb.trans (h1.mono hb.size)
      clear h1
      go_wp2_with fail
      refine (steps_0 a _ _ _).mono ?_
      rintro e w3 ⟨rfl, h1⟩
      have hb := hb.trans (h1.mono hb.size)
      clear h1
      go_wp2_with fail
      refine (ray_any a d _).mono ?_
      rintro e w4 ⟨rfl, h1⟩
      have hb := hb.trans (h1.mono hb.size)
      clear h1
      go_wp2_with fail
      refine (ray_any a _ _).mono ?_
      rintro e w5 ⟨rfl, h1⟩
      have hb := hb.trans (h1.mono hb.size)
      clear h1
      go_wp2
      go_ret
      exact ⟨ret_u R.out.symm, hb⟩

end Go.Proofs.YtnbfgangmkfolaaDoor
