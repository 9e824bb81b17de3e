/- The walk of awake of law 4. -/
import Derived.Test.YtnbfgangmkfolaaDoorZP
import Derived.Test.YtnbfgangmkfolaaDoorZ2
import Derived.Test.YtnbfgangmkfolaaDoorB3
namespace Go.Proofs.YtnbfgangmkfolaaDoor
open Go Go.RowKit

def of3 (a b c : Int) : BitVec 64 := putB (putB (putB 0#64 a) b) c
theorem of3_any (a b c : Int) (w : World) :
    Calls Tryd.prog 39 #[.int .i64 a, .int .i64 b, .int .i64 c] w fun e w' => e = .returned (.int .u64 (u (of3 a b c))) ∧ w = w' := by
  go_enter Tryd.func39, Tryd.ntmps39
  go_wp2_with fail
  refine (put_any 0#64 rfl a _).mono ?_
  rintro e w1 ⟨rfl, rfl⟩
  go_wp2_with fail
  refine (put_any (putB 0#64 a) rfl b _).mono ?_
  rintro e w2 ⟨rfl, rfl⟩
  go_wp2_with fail
  refine (put_any (putB (putB 0#64 a) b) rfl c _).mono ?_
  rintro e w3 ⟨rfl, rfl⟩
  go_wp2
  go_ret
  exact ⟨rfl, rfl⟩

set_option maxHeartbeats 1600000 in
theorem awake_any (w : World) (hT : Tab w) :
    Calls Tryd.prog 19 #[] w fun e w' => e = .returned (.bool true) ∧ Below w.heap.size w w' := by
  go_enter Tryd.func19, Tryd.ntmps19
  have hb := Below.refl w.heap.size w
  go_wp2_with fail
  refine (of3_any 24 40 40 _).mono ?_
  rintro e w1 ⟨rfl, rfl⟩
  go_wp2_with fail
  refine (dir_any 0 0 (of3 24 40 40) rfl _ hT).mono ?_
  rintro e w2 ⟨rfl, h1⟩
  have hb := hb.trans (h1.mono hb.size)
  have hT := hT.below h1 (Nat.le_refl _)
  clear h1
  rw [show dirB 0 0 (of3 24 40 40) = of3 8 16 24 by decide +kernel]
  go_wp2_with fail
  refine (of3_any 8 16 24 _).mono ?_
  rintro e w3 ⟨rfl, rfl⟩
  go_wp2_with fail
  refine (of3_any 24 24 24 _).mono ?_
  rintro e w4 ⟨rfl, rfl⟩
  go_wp2_with fail
  refine (dir_any 24 0 (of3 24 24 24) rfl _ hT).mono ?_
  rintro e w5 ⟨rfl, h1⟩
  have hb := hb.trans (h1.mono hb.size)
  have hT := hT.below h1 (Nat.le_refl _)
  clear h1
  rw [show dirB 24 0 (of3 24 24 24) = putB (of3 32 40 48) 56 by decide +kernel]
  go_wp2_with fail
  refine (of3_any 32 40 48 _).mono ?_
  rintro e w6 ⟨rfl, rfl⟩
  go_wp2_with fail
  refine (put_any (of3 32 40 48) rfl 56 _).mono ?_
  rintro e w7 ⟨rfl, rfl⟩
  go_wp2_with fail
  refine (of3_any 2 8 8 _).mono ?_
  rintro e w8 ⟨rfl, rfl⟩
  go_wp2_with fail
  refine (srook_any 0 (of3 2 8 8) rfl _ hT).mono ?_
  rintro e w9 ⟨rfl, h1⟩
  have hb := hb.trans (h1.mono hb.size)
  have hT := hT.below h1 (Nat.le_refl _)
  clear h1
  rw [show rookB 0 (of3 2 8 8) = of3 1 2 8 by decide +kernel]
  go_wp2_with fail
  refine (of3_any 1 2 8 _).mono ?_
  rintro e w10 ⟨rfl, rfl⟩
  go_wp2_with fail
  refine (sbish_any 2 0#64 rfl _ hT).mono ?_
  rintro e w11 ⟨rfl, h1⟩
  have hb := hb.trans (h1.mono hb.size)
  have hT := hT.below h1 (Nat.le_refl _)
  clear h1
  go_wp2_with fail
  refine (count_any (bishB 2 0#64) rfl _).mono ?_
  rintro e w12 ⟨rfl, rfl⟩
  rw [show cntB (bishB 2 0#64) = 7 by decide +kernel]
  go_wp2_with fail
  refine (of3_any 14 15 6 _).mono ?_
  rintro e w13 ⟨rfl, rfl⟩
  go_wp2_with fail
  refine (squeen_any 7 (of3 14 15 6) rfl _ hT).mono ?_
  rintro e w14 ⟨rfl, h1⟩
  have hb := hb.trans (h1.mono hb.size)
  have hT := hT.below h1 (Nat.le_refl _)
  clear h1
  rw [show queenB 7 (of3 14 15 6) = of3 6 14 15 by decide +kernel]
  go_wp2_with fail
  refine (of3_any 6 14 15 _).mono ?_
  rintro e w15 ⟨rfl, rfl⟩
  go_wp2_with fail
  refine (srook_any 64 0#64 rfl _ hT).mono ?_
  rintro e w16 ⟨rfl, h1⟩
  have hb := hb.trans (h1.mono hb.size)
  have hT := hT.below h1 (Nat.le_refl _)
  clear h1
  rw [show rookB 64 0#64 = 0#64 by decide +kernel, u_zero]
  go_wp2
  go_ret
  exact ⟨rfl, hb⟩

end Go.Proofs.YtnbfgangmkfolaaDoor
