/- The walk of SlidesBack. -/
import Derived.Test.YtnbfgangmkfolaaDoorAw4
import Derived.Test.YtnbfgangmkfolaaDoorY3
namespace Go.Proofs.YtnbfgangmkfolaaDoor
open Go Go.RowKit

set_option maxHeartbeats 1600000 in
theorem slidesBack_walk (a0 : Int) (a1 : Int) (a2 : Int) (_w0 : (Lit.int .i64 a0).wf = true) (_w1 : (Lit.int .i64 a1).wf = true) (w2 : (Lit.int .u64 a2).wf = true) (w : World) (hT : Tab w) :
    Calls Tryd.prog 10 #[.int .i64 a0, .int .i64 a1, .int .u64 a2] w fun e w' => e = .returned (.bool true) ∧ Below w.heap.size w w' := by
  obtain ⟨occ, rfl⟩ := of_wf w2
  have B1 := hideIt (back1 a0 a1 occ)
  have B2 := hideIt (back2 a0 a1 occ)
  have B3 := hideIt (back3 a0 a1 occ)
  have B4 := hideIt (back4 a0 a1 occ)
  have HQ := hideIt (has_queen a0 a1 occ)
  cases hl : (lineB a0 a1 == 0#64) with
  | true =>
    have z : (u (lineB a0 a1) != 0) = false := by rw [bne, u_eq_zero, hl]; rfl
    have HQ : Hid (hasB (queenB a0 occ) a1 = false) := by have := HQ.out; rw [hl] at this; exact this
    clear hl
    go_enter Tryd.func10, Tryd.ntmps10
    have hb := Below.refl w.heap.size w
    go_wp2_with fail
    refine (awake_any _ hT).mono ?_
    rintro e w1 ⟨rfl, h1⟩
    have hb := hb.trans (h1.mono hb.size)
    have hT := hT.below h1 (Nat.le_refl _)
    clear h1
    go_wp2_with fail
    refine (squeen_any a0 occ rfl _ hT).mono ?_
    rintro e w2 ⟨rfl, h1⟩
    have hb := hb.trans (h1.mono hb.size)
    have hT := hT.below h1 (Nat.le_refl _)
    clear h1
    go_wp2_with fail
    refine (has_any (queenB a0 occ) rfl a1 _).mono ?_
    rintro e w3 ⟨rfl, rfl⟩
    rw [HQ.out]
    go_wp2_with fail
    refine (squeen_any a1 occ rfl _ hT).mono ?_
    rintro e w4 ⟨rfl, h1⟩
    have hb := hb.trans (h1.mono hb.size)
    have hT := hT.below h1 (Nat.le_refl _)
    clear h1
    go_wp2_with fail
    refine (has_any (queenB a1 occ) rfl a0 _).mono ?_
    rintro e w5 ⟨rfl, rfl⟩
    rw [B1.out, HQ.out]
    go_wp2_with fail
    refine (put_any occ rfl a1 _).mono ?_
    rintro e w6 ⟨rfl, rfl⟩
    go_wp2_with fail
    refine (squeen_any a0 (putB occ a1) rfl _ hT).mono ?_
    rintro e w7 ⟨rfl, h1⟩
    have hb := hb.trans (h1.mono hb.size)
    have hT := hT.below h1 (Nat.le_refl _)
    clear h1
    go_wp2_with fail
    refine (has_any (queenB a0 (putB occ a1)) rfl a1 _).mono ?_
    rintro e w8 ⟨rfl, rfl⟩
    rw [B2.out, HQ.out]
    go_wp2_with fail
    refine (clear_any occ rfl a0 _).mono ?_
    rintro e w9 ⟨rfl, rfl⟩
    go_wp2_with fail
    refine (squeen_any a0 (clearB occ a0) rfl _ hT).mono ?_
    rintro e w10 ⟨rfl, h1⟩
    have hb := hb.trans (h1.mono hb.size)
    have hT := hT.below h1 (Nat.le_refl _)
    clear h1
    go_wp2_with fail
    refine (has_any (queenB a0 (clearB occ a0)) rfl a1 _).mono ?_
    rintro e w11 ⟨rfl, rfl⟩
    rw [B3.out, HQ.out]
    go_wp2_with fail
    refine (line_any a0 a1 _).mono ?_
    rintro e w12 ⟨rfl, h1⟩
    have hb := hb.trans (h1.mono hb.size)
    have hT := hT.below h1 (Nat.le_refl _)
    clear h1
    go_wp2_with fail
    refine (srook_any a0 occ rfl _ hT).mono ?_
    rintro e w13 ⟨rfl, h1⟩
    have hb := hb.trans (h1.mono hb.size)
    have hT := hT.below h1 (Nat.le_refl _)
    clear h1
    go_wp2_with fail
    refine (has_any (rookB a0 occ) rfl a1 _).mono ?_
    rintro e w14 ⟨rfl, rfl⟩
    go_wp2_with fail
    refine (srook_any a1 occ rfl _ hT).mono ?_
    rintro e w15 ⟨rfl, h1⟩
    have hb := hb.trans (h1.mono hb.size)
    have hT := hT.below h1 (Nat.le_refl _)
    clear h1
    go_wp2_with fail
    refine (has_any (rookB a1 occ) rfl a0 _).mono ?_
    rintro e w16 ⟨rfl, rfl⟩
    rw [B4.out]
    go_wp2
    go_ret
    exact ⟨rfl, hb⟩
  | false =>
    have z : (u (lineB a0 a1) != 0) = true := by rw [bne, u_eq_zero, hl]; rfl
    cases hc : ((betB a0 a1 &&& occ) == 0#64) with
    | true =>
      have z2 : (u (betB a0 a1 &&& occ) == 0) = true := by rw [u_eq_zero, hc]
      have HQ : Hid (hasB (queenB a0 occ) a1 = true) := by have := HQ.out; rw [hl, hc] at this; exact this
      clear hl hc
      go_enter Tryd.func10, Tryd.ntmps10
      have hb := Below.refl w.heap.size w
      go_wp2_with fail
      refine (awake_any _ hT).mono ?_
      rintro e w1 ⟨rfl, h1⟩
      have hb := hb.trans (h1.mono hb.size)
      have hT := hT.below h1 (Nat.le_refl _)
      clear h1
      go_wp2_with fail
      refine (squeen_any a0 occ rfl _ hT).mono ?_
      rintro e w2 ⟨rfl, h1⟩
      have hb := hb.trans (h1.mono hb.size)
      have hT := hT.below h1 (Nat.le_refl _)
      clear h1
      go_wp2_with fail
      refine (has_any (queenB a0 occ) rfl a1 _).mono ?_
      rintro e w3 ⟨rfl, rfl⟩
      rw [HQ.out]
      go_wp2_with fail
      refine (squeen_any a1 occ rfl _ hT).mono ?_
      rintro e w4 ⟨rfl, h1⟩
      have hb := hb.trans (h1.mono hb.size)
      have hT := hT.below h1 (Nat.le_refl _)
      clear h1
      go_wp2_with fail
      refine (has_any (queenB a1 occ) rfl a0 _).mono ?_
      rintro e w5 ⟨rfl, rfl⟩
      rw [B1.out, HQ.out]
      go_wp2_with fail
      refine (put_any occ rfl a1 _).mono ?_
      rintro e w6 ⟨rfl, rfl⟩
      go_wp2_with fail
      refine (squeen_any a0 (putB occ a1) rfl _ hT).mono ?_
      rintro e w7 ⟨rfl, h1⟩
      have hb := hb.trans (h1.mono hb.size)
      have hT := hT.below h1 (Nat.le_refl _)
      clear h1
      go_wp2_with fail
      refine (has_any (queenB a0 (putB occ a1)) rfl a1 _).mono ?_
      rintro e w8 ⟨rfl, rfl⟩
      rw [B2.out, HQ.out]
      go_wp2_with fail
      refine (clear_any occ rfl a0 _).mono ?_
      rintro e w9 ⟨rfl, rfl⟩
      go_wp2_with fail
      refine (squeen_any a0 (clearB occ a0) rfl _ hT).mono ?_
      rintro e w10 ⟨rfl, h1⟩
      have hb := hb.trans (h1.mono hb.size)
      have hT := hT.below h1 (Nat.le_refl _)
      clear h1
      go_wp2_with fail
      refine (has_any (queenB a0 (clearB occ a0)) rfl a1 _).mono ?_
      rintro e w11 ⟨rfl, rfl⟩
      rw [B3.out, HQ.out]
      go_wp2_with fail
      refine (line_any a0 a1 _).mono ?_
      rintro e w12 ⟨rfl, h1⟩
      have hb := hb.trans (h1.mono hb.size)
      have hT := hT.below h1 (Nat.le_refl _)
      clear h1
      go_wp2_with fail
      refine (between_any a0 a1 _).mono ?_
      rintro e w13 ⟨rfl, h1⟩
      have hb := hb.trans (h1.mono hb.size)
      have hT := hT.below h1 (Nat.le_refl _)
      clear h1
      go_wp2_with fail
      refine (srook_any a0 occ rfl _ hT).mono ?_
      rintro e w14 ⟨rfl, h1⟩
      have hb := hb.trans (h1.mono hb.size)
      have hT := hT.below h1 (Nat.le_refl _)
      clear h1
      go_wp2_with fail
      refine (has_any (rookB a0 occ) rfl a1 _).mono ?_
      rintro e w15 ⟨rfl, rfl⟩
      go_wp2_with fail
      refine (srook_any a1 occ rfl _ hT).mono ?_
      rintro e w16 ⟨rfl, h1⟩
      have hb := hb.trans (h1.mono hb.size)
      have hT := hT.below h1 (Nat.le_refl _)
      clear h1
      go_wp2_with fail
      refine (has_any (rookB a1 occ) rfl a0 _).mono ?_
      rintro e w17 ⟨rfl, rfl⟩
      rw [B4.out]
      go_wp2
      go_ret
      exact ⟨rfl, hb⟩
    | false =>
      have z2 : (u (betB a0 a1 &&& occ) == 0) = false := by rw [u_eq_zero, hc]
      have HQ : Hid (hasB (queenB a0 occ) a1 = false) := by have := HQ.out; rw [hl, hc] at this; exact this
      clear hl hc
      go_enter Tryd.func10, Tryd.ntmps10
      have hb := Below.refl w.heap.size w
      go_wp2_with fail
      refine (awake_any _ hT).mono ?_
      rintro e w1 ⟨rfl, h1⟩
      have hb := hb.trans (h1.mono hb.size)
      have hT := hT.below h1 (Nat.le_refl _)
      clear h1
      go_wp2_with fail
      refine (squeen_any a0 occ rfl _ hT).mono ?_
      rintro e w2 ⟨rfl, h1⟩
      have hb := hb.trans (h1.mono hb.size)
      have hT := hT.below h1 (Nat.le_refl _)
      clear h1
      go_wp2_with fail
      refine (has_any (queenB a0 occ) rfl a1 _).mono ?_
      rintro e w3 ⟨rfl, rfl⟩
      rw [HQ.out]
      go_wp2_with fail
      refine (squeen_any a1 occ rfl _ hT).mono ?_
      rintro e w4 ⟨rfl, h1⟩
      have hb := hb.trans (h1.mono hb.size)
      have hT := hT.below h1 (Nat.le_refl _)
      clear h1
      go_wp2_with fail
      refine (has_any (queenB a1 occ) rfl a0 _).mono ?_
      rintro e w5 ⟨rfl, rfl⟩
      rw [B1.out, HQ.out]
      go_wp2_with fail
      refine (put_any occ rfl a1 _).mono ?_
      rintro e w6 ⟨rfl, rfl⟩
      go_wp2_with fail
      refine (squeen_any a0 (putB occ a1) rfl _ hT).mono ?_
      rintro e w7 ⟨rfl, h1⟩
      have hb := hb.trans (h1.mono hb.size)
      have hT := hT.below h1 (Nat.le_refl _)
      clear h1
      go_wp2_with fail
      refine (has_any (queenB a0 (putB occ a1)) rfl a1 _).mono ?_
      rintro e w8 ⟨rfl, rfl⟩
      rw [B2.out, HQ.out]
      go_wp2_with fail
      refine (clear_any occ rfl a0 _).mono ?_
      rintro e w9 ⟨rfl, rfl⟩
      go_wp2_with fail
      refine (squeen_any a0 (clearB occ a0) rfl _ hT).mono ?_
      rintro e w10 ⟨rfl, h1⟩
      have hb := hb.trans (h1.mono hb.size)
      have hT := hT.below h1 (Nat.le_refl _)
      clear h1
      go_wp2_with fail
      refine (has_any (queenB a0 (clearB occ a0)) rfl a1 _).mono ?_
      rintro e w11 ⟨rfl, rfl⟩
      rw [B3.out, HQ.out]
      go_wp2_with fail
      refine (line_any a0 a1 _).mono ?_
      rintro e w12 ⟨rfl, h1⟩
      have hb := hb.trans (h1.mono hb.size)
      have hT := hT.below h1 (Nat.le_refl _)
      clear h1
      go_wp2_with fail
      refine (between_any a0 a1 _).mono ?_
      rintro e w13 ⟨rfl, h1⟩
      have hb := hb.trans (h1.mono hb.size)
      have hT := hT.below h1 (Nat.le_refl _)
      clear h1
      go_wp2_with fail
      refine (srook_any a0 occ rfl _ hT).mono ?_
      rintro e w14 ⟨rfl, h1⟩
      have hb := hb.trans (h1.mono hb.size)
      have hT := hT.below h1 (Nat.le_refl _)
      clear h1
      go_wp2_with fail
      refine (has_any (rookB a0 occ) rfl a1 _).mono ?_
      rintro e w15 ⟨rfl, rfl⟩
      go_wp2_with fail
      refine (srook_any a1 occ rfl _ hT).mono ?_
      rintro e w16 ⟨rfl, h1⟩
      have hb := hb.trans (h1.mono hb.size)
      have hT := hT.below h1 (Nat.le_refl _)
      clear h1
      go_wp2_with fail
      refine (has_any (rookB a1 occ) rfl a0 _).mono ?_
      rintro e w17 ⟨rfl, rfl⟩
      rw [B4.out]
      go_wp2
      go_ret
      exact ⟨rfl, hb⟩

end Go.Proofs.YtnbfgangmkfolaaDoor
