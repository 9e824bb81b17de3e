/- Walks of the reference of bits: Has, One, Put, Clear. -/
import Derived.Test.YtccdelpiflcipaaDoorU
import Derived.Test.YtccdelpiflcipaaDoorRows
import Derived.WalkSpells
import Derived.WalkLawsBesides
namespace Go.Proofs.YtccdelpiflcipaaDoor
open Go Go.RowKit

set_option maxHeartbeats 400000 in
theorem rhas_any (b : BitVec 64) {a : Int} (ha : a = u b) (s : Int) (w : World) :
    Calls Tryd.prog 68 #[.int .u64 a, .int .i64 s] w fun e w' => e = .returned (.bool (hasB b s)) ∧ w = w' := by
  subst ha
  by_cases h1 : s < 0
  · go_enter Tryd.func68, Tryd.ntmps68
    go_wp2
    go_ret
    exact ⟨ret_bool (hasB_out _ (by omega)).symm, rfl⟩
  by_cases h2 : 63 < s
  · go_enter Tryd.func68, Tryd.ntmps68
    go_wp2
    go_ret
    exact ⟨ret_bool (hasB_out _ (by omega)).symm, rfl⟩
  obtain ⟨n, rfl⟩ := Int.eq_ofNat_of_zero_le (by omega : 0 ≤ s)
  have h0 := u_nonneg b
  go_enter Tryd.func68, Tryd.ntmps68
  go_wp2
  go_loop [0, 5] (fun x i => ∃ k : Nat, k ≤ n ∧ i = .int .i64 k ∧ x = .int .u64 (u (b >>> k))) (fun _ i => n - (intOf i).toNat)
  case atStart => exact ⟨0, by omega, rfl, rfl⟩
  case round =>
    obtain ⟨k, hk, rfl, rfl⟩ := hrel
    have g0 := u_nonneg (b >>> k)
    have g1 := u_lt (b >>> k)
    by_cases hlt : k < n
    · go_wp2
      go_round
      case rel => exact ⟨k + 1, by omega, by go_num, by rw [half_u]⟩
      case measure => simp [intOf]; omega
    · go_wp2
      go_ret
      obtain rfl : k = n := by omega
      exact ⟨ret_bool (odd_u b k (by omega)), rfl⟩

set_option maxHeartbeats 400000 in
theorem rone_any (s : Int) (w : World) :
    Calls Tryd.prog 77 #[.int .i64 s] w fun e w' => e = .returned (.int .u64 (u (oneB s))) ∧ w = w' := by
  by_cases h1 : s < 0
  · go_enter Tryd.func77, Tryd.ntmps77
    go_wp2
    go_ret
    exact ⟨ret_int (by rw [oneB_out (by omega)]; rfl), rfl⟩
  by_cases h2 : 63 < s
  · go_enter Tryd.func77, Tryd.ntmps77
    go_wp2
    go_ret
    exact ⟨ret_int (by rw [oneB_out (by omega)]; rfl), rfl⟩
  obtain ⟨n, rfl⟩ := Int.eq_ofNat_of_zero_le (by omega : 0 ≤ s)
  go_enter Tryd.func77, Tryd.ntmps77
  go_wp2
  go_loop [3, 4] (fun x i => ∃ k : Nat, k ≤ n ∧ i = .int .i64 k ∧ x = .int .u64 (u (1#64 <<< k))) (fun _ i => n - (intOf i).toNat)
  case atStart => exact ⟨0, by omega, rfl, rfl⟩
  case round =>
    obtain ⟨k, hk, rfl, rfl⟩ := hrel
    have g0 := u_nonneg (1#64 <<< k)
    have g1 := u_lt (1#64 <<< k)
    by_cases hlt : k < n
    · go_wp2
      go_round
      case rel => exact ⟨k + 1, by omega, by go_num, by rw [dbl_u k (by omega)]⟩
      case measure => simp [intOf]; omega
    · go_wp2
      go_ret
      obtain rfl : k = n := by omega
      exact ⟨ret_int (by rw [oneB_nat k (by omega)]), rfl⟩

theorem add_u (a b : BitVec 64) : IntKind.u64.wrap (u a + u b) = u (a + b) := by
  rw [IntKind.wrap_u64]; unfold u; rw [BitVec.toNat_add]; omega
theorem sub_u (a b : BitVec 64) : IntKind.u64.wrap (u a - u b) = u (a - b) := by
  rw [IntKind.wrap_u64]; unfold u; rw [BitVec.toNat_sub]; have := a.isLt; have := b.isLt; omega

set_option maxHeartbeats 400000 in
theorem rput_any (b : BitVec 64) {a : Int} (ha : a = u b) (s : Int) (w : World) :
    Calls Tryd.prog 69 #[.int .u64 a, .int .i64 s] w fun e w' => e = .returned (.int .u64 (u (putB b s))) ∧ w = w' := by
  subst ha
  rw [put_plus]
  cases hb : hasB b s with
  | true =>
    go_enter Tryd.func69, Tryd.ntmps69
    go_wp2_with fail
    refine (rhas_any b rfl s _).mono ?_
    rintro e w' ⟨rfl, rfl⟩
    go_wp2
    go_ret
    exact ⟨rfl, rfl⟩
  | false =>
    go_enter Tryd.func69, Tryd.ntmps69
    go_wp2_with fail
    refine (rhas_any b rfl s _).mono ?_
    rintro e w' ⟨rfl, rfl⟩
    go_wp2_with fail
    refine (rone_any s _).mono ?_
    rintro e w' ⟨rfl, rfl⟩
    go_wp2
    go_ret
    exact ⟨ret_int (by rw [add_u]), rfl⟩


end Go.Proofs.YtccdelpiflcipaaDoor
