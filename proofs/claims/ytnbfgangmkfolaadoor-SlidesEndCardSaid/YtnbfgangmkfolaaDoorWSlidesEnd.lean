/- The walk of SlidesEnd. -/
import Derived.Test.YtnbfgangmkfolaaDoorAw4
import Derived.Test.YtnbfgangmkfolaaDoorB2
import Derived.IntWalk
namespace Go.Proofs.YtnbfgangmkfolaaDoor
open Go Go.RowKit

theorem cnt_zero : cntB 0#64 = 0 := by decide +kernel
theorem dirOf (a : Int) : ∃ d, wrap64 ((IntKind.u64.wrap a).tmod 8) = d ∧ 0 ≤ d ∧ d < 8 := by
  refine ⟨_, rfl, ?_⟩
  have h : 0 ≤ IntKind.u64.wrap a := by rw [IntKind.wrap_u64]; omega
  rw [Int.tmod_eq_emod_of_nonneg h]
  have e : wrap64 (IntKind.u64.wrap a % 8) = IntKind.u64.wrap a % 8 := IntWalk.wrap64_in _ (by omega)
  rw [e]
  omega

set_option maxHeartbeats 1600000 in
theorem slidesEnd_walk (a0 : Int) (a1 : Int) (a2 : Int) (_w0 : (Lit.int .i64 a0).wf = true) (_w1 : (Lit.int .i64 a1).wf = true) (w2 : (Lit.int .u64 a2).wf = true) (w : World) (hT : Tab w) :
    Calls Tryd.prog 5 #[.int .i64 a0, .int .i64 a1, .int .u64 a2] w fun e w' => e = .returned (.bool true) ∧ Below w.heap.size w w' := by
  obtain ⟨occ, rfl⟩ := of_wf w2
  obtain ⟨d, hd, d0, d1⟩ := dirOf a1
  rcases end_cases a0 d occ with ⟨h1, h2⟩ | ⟨h1, h3, h2⟩
  · have z : (u (dirB a0 d occ &&& occ) == 0) = true := by rw [h1]; rfl
    have C : Hid (cntB (dirB a0 d occ &&& occ) = 0) := by rw [h1]; exact cnt_zero
    clear h1
    go_enter Tryd.func5, Tryd.ntmps5
    have hb := Below.refl w.heap.size w
    go_wp2_with fail
    refine (awake_any _ hT).mono ?_
    rintro e w1 ⟨rfl, h1⟩
    have hb := hb.trans (h1.mono hb.size)
    have hT := hT.below h1 (Nat.le_refl _)
    clear h1
    go_wp2_with fail
    refine (dir_any a0 d occ rfl _ hT).mono ?_
    rintro e w2 ⟨rfl, h1⟩
    have hb := hb.trans (h1.mono hb.size)
    have hT := hT.below h1 (Nat.le_refl _)
    clear h1
    go_wp2_with fail
    refine (count_any (dirB a0 d occ &&& occ) rfl _).mono ?_
    rintro e w3 ⟨rfl, rfl⟩
    rw [C.out]
    go_wp2_with fail
    refine (shift_any (dirB a0 d occ) rfl d _).mono ?_
    rintro e w4 ⟨rfl, h1⟩
    have hb := hb.trans (h1.mono hb.size)
    have hT := hT.below h1 (Nat.le_refl _)
    clear h1
    go_wp2
    go_ret
    exact ⟨rfl, hb⟩
  · have z : (u (dirB a0 d occ &&& occ) == 0) = false := by rw [u_eq_zero, beq_eq_false_iff_ne]; exact h1
    have C := hideIt h3
    clear h1 h3
    go_enter Tryd.func5, Tryd.ntmps5
    have hb := Below.refl w.heap.size w
    go_wp2_with fail
    refine (awake_any _ hT).mono ?_
    rintro e w1 ⟨rfl, h1⟩
    have hb := hb.trans (h1.mono hb.size)
    have hT := hT.below h1 (Nat.le_refl _)
    clear h1
    go_wp2_with fail
    refine (dir_any a0 d occ rfl _ hT).mono ?_
    rintro e w2 ⟨rfl, h1⟩
    have hb := hb.trans (h1.mono hb.size)
    have hT := hT.below h1 (Nat.le_refl _)
    clear h1
    go_wp2_with fail
    refine (count_any (dirB a0 d occ &&& occ) rfl _).mono ?_
    rintro e w3 ⟨rfl, rfl⟩
    rw [C.out]
    go_wp2_with fail
    refine (shift_any (dirB a0 d occ) rfl d _).mono ?_
    rintro e w4 ⟨rfl, h1⟩
    have hb := hb.trans (h1.mono hb.size)
    have hT := hT.below h1 (Nat.le_refl _)
    clear h1
    go_wp2_with fail
    refine (shift_any (dirB a0 d occ &&& occ) rfl d _).mono ?_
    rintro e w5 ⟨rfl, h1⟩
    have hb := hb.trans (h1.mono hb.size)
    have hT := hT.below h1 (Nat.le_refl _)
    clear h1
    go_wp2
    go_ret
    exact ⟨rfl, hb⟩

end Go.Proofs.YtnbfgangmkfolaaDoor
