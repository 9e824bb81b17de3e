/- Walks of eval: known, the extras' closures, king. -/
import Derived.Test.YtccdelpiflcipaaDoorE1
import Derived.Test.YtccdelpiflcipaaDoorV
import Derived.Test.YtccdelpiflcipaaDoorPA
import Derived.Great.Walk
namespace Go.Proofs.YtccdelpiflcipaaDoor
open Go Go.RowKit
set_option linter.unusedVariables false

theorem nm_ne : ∀ k : Fin 9, (nmB k.val).data ≠ #[] := by decide +kernel
def knownB (v c : Nat) : Bool := decide (v < 9) && decide (c ≤ 1)
set_option maxHeartbeats 800000 in
theorem known_any (v c : Nat) (hv : v ≤ 255) (hc : c ≤ 255) (w : World) : Calls Tryd.prog 26 #[.int .u8 (v : Int), .int .u8 (c : Int)] w fun e w' => e = .returned (.bool (knownB v c)) ∧ Below w.heap.size w w' := by
  by_cases h : v < 9
  · have hn : (nmB v).toList.isEmpty = false := by
      rw [ByteArray.toList_eq]
      have := nm_ne ⟨v, h⟩
      simp only at this
      cases hh : (nmB v).data.toList with
      | nil => exact absurd (by apply Array.ext'; rw [hh]) this
      | cons _ _ => rfl
    by_cases h1 : c ≤ 1
    · have E := hideIt (show knownB v c = true by unfold knownB; rw [decide_eq_true h, decide_eq_true h1]; rfl)
      have d1 : decide ((c : Int) ≤ 1) = true := decide_eq_true (by omega)
      go_enter Tryd.func26, Tryd.ntmps26
      go_wp2_with fail
      refine (vname_any v hv _).mono ?_
      rintro e w1 ⟨rfl, hb⟩
      go_wp2
      go_ret
      exact ⟨ret_bool E.out.symm, hb⟩
    · have E := hideIt (show knownB v c = false by unfold knownB; rw [decide_eq_false h1, Bool.and_false])
      have d1 : decide ((c : Int) ≤ 1) = false := decide_eq_false (by omega)
      go_enter Tryd.func26, Tryd.ntmps26
      go_wp2_with fail
      refine (vname_any v hv _).mono ?_
      rintro e w1 ⟨rfl, hb⟩
      go_wp2
      go_ret
      exact ⟨ret_bool E.out.symm, hb⟩
  · have E := hideIt (show knownB v c = false by unfold knownB; rw [decide_eq_false h]; rfl)
    have hn : (nmB v).toList.isEmpty = true := by
      obtain ⟨j, rfl⟩ : ∃ j, v = j + 9 := ⟨v - 9, by omega⟩
      rw [ByteArray.toList_eq]; rfl
    go_enter Tryd.func26, Tryd.ntmps26
    go_wp2_with fail
    refine (vname_any v hv _).mono ?_
    rintro e w1 ⟨rfl, hb⟩
    go_wp2
    go_ret
    exact ⟨ret_bool E.out.symm, hb⟩

set_option maxHeartbeats 800000 in
/-- ThreeCheck: 150 for each check given. -/
theorem extra4_any (n : Nat → Int) (hn : PosOk n) (c : Nat) (hc : c ≤ 1) (w : World) : Calls Tryd.prog 50 #[.agg (posA n), .int .u8 (c : Int)] w fun e w' => e = .returned (.int .i64 (150 * n (84 + c))) ∧ Below w.heap.size w w' := by
  obtain ⟨X, hX⟩ : ∃ X, w.alloc (.cells (posA n) 31) = X := ⟨_, rfl⟩
  obtain ⟨p0, hb⟩ := box1 w n X hX
  have HX := hideIt hX
  have k84 : kindAt (84 + c) = .u8 := by
    have : c = 0 ∨ c = 1 := by omega
    rcases this with rfl | rfl <;> rfl
  obtain ⟨y0, y1⟩ := hn.u8 (84 + c) (by omega) k84
  have cc := p0.cell (84 + c) (by omega)
  rw [k84] at cc
  clear hX
  go_enter Tryd.func50, Tryd.ntmps50
  go_wp2_with (rw [HX.out])
  go_ret
  exact ⟨rfl, hb⟩

set_option maxHeartbeats 800000 in
/-- Antichess: 200 for each king. -/
theorem extra5_any (n : Nat → Int) (hn : PosOk n) (c : Nat) (hc : c ≤ 1) (w : World) : Calls Tryd.prog 51 #[.agg (posA n), .int .u8 (c : Int)] w fun e w' => e = .returned (.int .i64 (200 * (cntB (ofN n c 6) : Int))) ∧ Below w.heap.size w w' := by
  have hl : cntB (ofN n c 6) ≤ 64 := listB_length _
  obtain ⟨X, hX⟩ : ∃ X, w.alloc (.cells (posA n) 31) = X := ⟨_, rfl⟩
  obtain ⟨p0, hb⟩ := box1 w n X hX
  obtain ⟨i0, r0⟩ := p0.rules
  have HX := hideIt hX
  clear hX
  go_enter Tryd.func51, Tryd.ntmps51
  go_wp2_with (rw [HX.out])
  refine (bcount_any n hn c 6 _).mono ?_
  rintro e w1 ⟨rfl, h1⟩
  have hb := hb.trans (h1.mono hb.size)
  clear h1
  go_wp2
  go_ret
  exact ⟨rfl, hb⟩

/-- Crazyhouse: what is held. -/
def heldI (n : Nat → Int) (c : Nat) : Nat → Int
  | 0 => 0
  | k + 1 => heldI n c k + wortI k * n (66 + 6 * c + k)
theorem wort_bd (k : Int) : 0 ≤ wortI k ∧ wortI k ≤ 900 := by unfold wortI; repeat (first | (exact ⟨by decide, by decide⟩) | split)

/-- The king's closures. -/
theorem kingR_any (s : Int) (h0 : 0 ≤ s) (h1 : s < 64) (w : World) : Calls Tryd.prog 47 #[.int .i64 s] w fun e w' => e = .returned (.int .i64 (60 * (s / 8))) ∧ w = w' := by
  go_enter Tryd.func47, Tryd.ntmps47
  go_wp2
  go_ret
  exact ⟨rfl, rfl⟩
theorem kingH_any (s : Int) (h0 : 0 ≤ s) (h1 : s < 64) (w : World) : Calls Tryd.prog 49 #[.int .i64 s] w fun e w' => e = .returned (.int .i64 (-30 * sqI s)) ∧ w = w' := by
  have hb : -1 ≤ sqI s ∧ sqI s ≤ 3 := by
    have : ∀ k : Fin 64, -1 ≤ sqI (k.val : Int) ∧ sqI (k.val : Int) ≤ 3 := by decide +kernel
    have h := this ⟨s.toNat, by omega⟩
    rwa [show (((⟨s.toNat, by omega⟩ : Fin 64).val : Nat) : Int) = s by show ((s.toNat : Nat) : Int) = s; omega] at h
  go_enter Tryd.func49, Tryd.ntmps49
  go_wp2_with fail
  refine (square_any s _).mono ?_
  rintro e w1 ⟨rfl, rfl⟩
  go_wp2
  go_ret
  exact ⟨rfl, rfl⟩

end Go.Proofs.YtccdelpiflcipaaDoor
