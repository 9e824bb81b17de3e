/- Walks of bits: one, Has, Put, Clear, and of the reference's. -/
import Derived.Test.YtkkabacdiefabaaDoorU
import Derived.Test.YtkkabacdiefabaaDoorRows
import Derived.WalkSpells
import Derived.WalkLawsBesides
namespace Go.Proofs.YtkkabacdiefabaaDoor
open Go Go.RowKit

set_option maxHeartbeats 400000 in
theorem one_any (s : Int) (w : World) :
    Calls Tryd.prog 44 #[.int .i64 s] w fun e w' => e = .returned (.int .u64 (u (oneB s))) ∧ w = w' := by
  by_cases h1 : s < 0
  · go_enter Tryd.func44, Tryd.ntmps44
    go_wp2
    go_ret
    exact ⟨ret_int (by rw [oneB_out (by omega)]; rfl), rfl⟩
  · by_cases h2 : 64 ≤ s
    · go_enter Tryd.func44, Tryd.ntmps44
      go_wp2
      go_ret
      exact ⟨ret_int (by rw [oneB_out (by omega)]; rfl), rfl⟩
    · go_enter Tryd.func44, Tryd.ntmps44
      go_wp2
      go_ret
      exact ⟨ret_int (pow_oneB s (by omega) (by omega)), rfl⟩

set_option maxHeartbeats 400000 in
theorem put_any (b : BitVec 64) {a : Int} (ha : a = u b) (s : Int) (w : World) :
    Calls Tryd.prog 37 #[.int .u64 a, .int .i64 s] w fun e w' => e = .returned (.int .u64 (u (putB b s))) ∧ w = w' := by
  subst ha
  go_enter Tryd.func37, Tryd.ntmps37
  go_wp2_with fail
  refine (one_any s _).mono ?_
  rintro e w' ⟨rfl, rfl⟩
  go_wp2
  go_ret
  exact ⟨rfl, rfl⟩



end Go.Proofs.YtkkabacdiefabaaDoor
