/- Walk of the reference of bits: Of. -/
import Derived.Test.YtloncbjkipjepaaR2
namespace Go.Proofs.Ytloncbjkipjepaa
open Go Go.RowKit

set_option maxHeartbeats 800000 in
/-- The set of a list that lies in memory; nothing is written. -/
theorem rof_any (a : Option Addr) (c : Nat) (l : List Int) (w : World) (hl : l.length ≤ 1000000) (h : l = [] ∨ ∃ g, a = some ⟨g, 0, none⟩ ∧ ∀ k (hk : k < l.length), w.cell? ⟨g, k, none⟩ = some (.int .i64 (l[k]))) :
    Calls Try.prog 33 #[.slice a l.length c] w fun e w' => e = .returned (.int .u64 (u (foldPut (fun x => x) l))) ∧ w = w' := by
  rcases h with rfl | ⟨g, rfl, hcell⟩
  · go_enter Try.func33, Try.ntmps33
    go_wp2
    refine wp_loop_rounds 1 ?_
    rw [rounds_succ]
    go_wp2
    go_ret
    exact ⟨rfl, rfl⟩
  · obtain ⟨n, hn⟩ : ∃ n, l.length = n := ⟨_, rfl⟩
    rw [hn] at hl
    have HC := hideIt hcell
    have HN := hideIt hn
    rw [hn]
    clear hcell hn
    go_enter Try.func33, Try.ntmps33
    go_wp2
    go_loop [3, 4] (fun x i => ∃ k : Nat, k ≤ n ∧ i = .int .i64 k ∧ x = .int .u64 (u (foldPut (fun x => x) (l.take k)))) (fun _ i => n - (intOf i).toNat)
    case atStart => exact ⟨0, by omega, rfl, rfl⟩
    case round =>
      obtain ⟨k, hk, rfl, rfl⟩ := hrel
      by_cases hlt : k < n
      · have hlt2 : k < l.length := by rw [HN.out]; exact hlt
        have hc := HC.out k hlt2
        have HF := hideIt (foldPut_take (fun x => x) l k hlt2)
        generalize l[k] = y at *
        go_wp2_with fail
        refine (rput_any _ rfl _ _).mono ?_
        rintro e w3 ⟨rfl, rfl⟩
        go_wp2
        go_round
        case rel => exact ⟨k + 1, by omega, by go_num, by rw [HF.out]⟩
        case measure => simp [intOf]; omega
      · go_wp2
        go_ret
        obtain rfl : k = n := by omega
        exact ⟨ret_int (by rw [← HN.out, List.take_length]), rfl⟩

end Go.Proofs.Ytloncbjkipjepaa
