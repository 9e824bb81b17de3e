/- The walk of SlidesPieces. -/
import Derived.Test.YtnbfgangmkfolaaDoorZP
import Derived.Test.YtnbfgangmkfolaaDoorZR
namespace Go.Proofs.YtnbfgangmkfolaaDoor
open Go Go.RowKit

set_option maxHeartbeats 800000 in
theorem rrook_any (s : Int) (occ : BitVec 64) {a : Int} (ha : a = u occ) (w : World) :
    Calls Tryd.prog 14 #[.int .i64 s, .int .u64 a] w fun e w' => e = .returned (.int .u64 (u (rookB s occ))) ∧ Below w.heap.size w w' := by
  subst ha
  go_enter Tryd.func14, Tryd.ntmps14
  have hb := Below.refl w.heap.size w
  go_wp2_with fail
  refine (rdir_any s 0 occ rfl _).mono ?_
  rintro e w1 ⟨rfl, h1⟩
  have hb := hb.trans (h1.mono hb.size)
  clear h1
  go_wp2_with fail
  refine (rdir_any s 2 occ rfl _).mono ?_
  rintro e w2 ⟨rfl, h1⟩
  have hb := hb.trans (h1.mono hb.size)
  clear h1
  go_wp2_with fail
  refine (rdir_any s 4 occ rfl _).mono ?_
  rintro e w3 ⟨rfl, h1⟩
  have hb := hb.trans (h1.mono hb.size)
  clear h1
  go_wp2_with fail
  refine (rdir_any s 6 occ rfl _).mono ?_
  rintro e w4 ⟨rfl, h1⟩
  have hb := hb.trans (h1.mono hb.size)
  clear h1
  go_wp2
  go_ret
  exact ⟨rfl, hb⟩

set_option maxHeartbeats 800000 in
theorem rbish_any (s : Int) (occ : BitVec 64) {a : Int} (ha : a = u occ) (w : World) :
    Calls Tryd.prog 16 #[.int .i64 s, .int .u64 a] w fun e w' => e = .returned (.int .u64 (u (bishB s occ))) ∧ Below w.heap.size w w' := by
  subst ha
  go_enter Tryd.func16, Tryd.ntmps16
  have hb := Below.refl w.heap.size w
  go_wp2_with fail
  refine (rdir_any s 1 occ rfl _).mono ?_
  rintro e w1 ⟨rfl, h1⟩
  have hb := hb.trans (h1.mono hb.size)
  clear h1
  go_wp2_with fail
  refine (rdir_any s 3 occ rfl _).mono ?_
  rintro e w2 ⟨rfl, h1⟩
  have hb := hb.trans (h1.mono hb.size)
  clear h1
  go_wp2_with fail
  refine (rdir_any s 5 occ rfl _).mono ?_
  rintro e w3 ⟨rfl, h1⟩
  have hb := hb.trans (h1.mono hb.size)
  clear h1
  go_wp2_with fail
  refine (rdir_any s 7 occ rfl _).mono ?_
  rintro e w4 ⟨rfl, h1⟩
  have hb := hb.trans (h1.mono hb.size)
  clear h1
  go_wp2
  go_ret
  exact ⟨rfl, hb⟩

set_option maxHeartbeats 800000 in
theorem rqueen_any (s : Int) (occ : BitVec 64) {a : Int} (ha : a = u occ) (w : World) :
    Calls Tryd.prog 18 #[.int .i64 s, .int .u64 a] w fun e w' => e = .returned (.int .u64 (u (queenB s occ))) ∧ Below w.heap.size w w' := by
  subst ha
  go_enter Tryd.func18, Tryd.ntmps18
  have hb := Below.refl w.heap.size w
  go_wp2_with fail
  refine (rrook_any s occ rfl _).mono ?_
  rintro e w1 ⟨rfl, h1⟩
  have hb := hb.trans (h1.mono hb.size)
  clear h1
  go_wp2_with fail
  refine (rbish_any s occ rfl _).mono ?_
  rintro e w2 ⟨rfl, h1⟩
  have hb := hb.trans (h1.mono hb.size)
  clear h1
  go_wp2
  go_ret
  exact ⟨rfl, hb⟩

set_option maxHeartbeats 1600000 in
theorem slidesPieces_walk (a0 : Int) (a1 : Int) (_w0 : (Lit.int .i64 a0).wf = true) (w1 : (Lit.int .u64 a1).wf = true) (w : World) (hT : Tab w) :
    Calls Tryd.prog 4 #[.int .i64 a0, .int .u64 a1] w fun e w' => e = .returned (.bool true) ∧ Below w.heap.size w w' := by
  obtain ⟨occ, rfl⟩ := of_wf w1
  go_enter Tryd.func4, Tryd.ntmps4
  have hb := Below.refl w.heap.size w
  go_wp2_with fail
  refine (srook_any a0 occ rfl _ hT).mono ?_
  rintro e w1 ⟨rfl, h1⟩
  have hb := hb.trans (h1.mono hb.size)
  have hT := hT.below h1 (Nat.le_refl _)
  clear h1
  go_wp2_with fail
  refine (rrook_any a0 occ rfl _).mono ?_
  rintro e w2 ⟨rfl, h1⟩
  have hb := hb.trans (h1.mono hb.size)
  have hT := hT.below h1 (Nat.le_refl _)
  clear h1
  go_wp2_with fail
  refine (sbish_any a0 occ rfl _ hT).mono ?_
  rintro e w3 ⟨rfl, h1⟩
  have hb := hb.trans (h1.mono hb.size)
  have hT := hT.below h1 (Nat.le_refl _)
  clear h1
  go_wp2_with fail
  refine (rbish_any a0 occ rfl _).mono ?_
  rintro e w4 ⟨rfl, h1⟩
  have hb := hb.trans (h1.mono hb.size)
  have hT := hT.below h1 (Nat.le_refl _)
  clear h1
  go_wp2_with fail
  refine (squeen_any a0 occ rfl _ hT).mono ?_
  rintro e w5 ⟨rfl, h1⟩
  have hb := hb.trans (h1.mono hb.size)
  have hT := hT.below h1 (Nat.le_refl _)
  clear h1
  go_wp2_with fail
  refine (rqueen_any a0 occ rfl _).mono ?_
  rintro e w6 ⟨rfl, h1⟩
  have hb := hb.trans (h1.mono hb.size)
  have hT := hT.below h1 (Nat.le_refl _)
  clear h1
  go_wp2
  go_ret
  exact ⟨rfl, hb⟩

end Go.Proofs.YtnbfgangmkfolaaDoor
