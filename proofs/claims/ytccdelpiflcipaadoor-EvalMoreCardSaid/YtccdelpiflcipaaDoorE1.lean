/- Walks of eval: worths, Piece, outward, Square; of the reference: Piece, Square. -/
import Derived.Test.YtccdelpiflcipaaDoorU
import Derived.Test.YtccdelpiflcipaaDoorSR
import Derived.Test.YtccdelpiflcipaaDoorRows
import Derived.WalkKit
import Derived.Below
import Derived.Deep.WholeRow
import Derived.Laws.Tables
namespace Go.Proofs.YtccdelpiflcipaaDoor
open Go Go.RowKit
set_option linter.unusedVariables false

def wortI (k : Int) : Int := if k = 1 then 100 else if k = 2 then 320 else if k = 3 then 330 else if k = 4 then 500 else if k = 5 then 900 else 0
def wortA : Array Value := #[.int .i64 0, .int .i64 100, .int .i64 320, .int .i64 330, .int .i64 500, .int .i64 900, .int .i64 0]
theorem worths_any (w : World) : Calls Tryd.prog 23 #[] w fun e w' => e = .returned (.agg wortA) ∧ Below w.heap.size w w' := by
  go_enter Tryd.func23, Tryd.ntmps23
  go_wp2
  refine bodyPost_ret (v := .agg wortA) (by simp [results, Tryd.results23, go_sem, wortA]) rfl ⟨rfl, (Below.refl _ _).alloc (Nat.le_refl _) _⟩
theorem index_wort : ∀ k : Nat, k < 7 → ∀ w, (Instr.index 47 (.agg wortA) (.int .u8 (k : Int))).run Tryd.prog w = .ok (.int .i64 (wortI k)) w := by
  intro k hk w
  have hc : k = 0 ∨ k = 1 ∨ k = 2 ∨ k = 3 ∨ k = 4 ∨ k = 5 ∨ k = 6 := by omega
  have hx : ∀ f g : World → Result Value, f = g → f w = g w := fun f g h => by rw [h]
  rcases hc with rfl | rfl | rfl | rfl | rfl | rfl | rfl <;> exact hx (fun w => (Instr.index 47 (.agg wortA) (.int .u8 _)).run Tryd.prog w) (fun w => .ok (.int .i64 (wortI _)) w) (by kernel_rfl)
set_option maxHeartbeats 800000 in
theorem piece_any (k : Nat) (hk : k ≤ 255) (w : World) : Calls Tryd.prog 9 #[.int .u8 (k : Int)] w fun e w' => e = .returned (.int .i64 (wortI k)) ∧ Below w.heap.size w w' := by
  by_cases h : k < 7
  · have ix := index_wort k h
    go_enter Tryd.func9, Tryd.ntmps9
    go_wp2_with fail
    refine (worths_any _).mono ?_
    rintro e w1 ⟨rfl, h1⟩
    go_wp2
    go_ret
    exact ⟨rfl, h1⟩
  · have E := hideIt (show wortI k = 0 by unfold wortI; rw [if_neg (by omega), if_neg (by omega), if_neg (by omega), if_neg (by omega), if_neg (by omega)])
    go_enter Tryd.func9, Tryd.ntmps9
    go_wp2
    go_ret
    exact ⟨ret_int E.out.symm, Below.refl _ _⟩
set_option maxHeartbeats 800000 in
theorem rpiece_any (k : Nat) (hk : k ≤ 255) (w : World) : Calls Tryd.prog 10 #[.int .u8 (k : Int)] w fun e w' => e = .returned (.int .i64 (wortI k)) ∧ w = w' := by
  have hc : k = 1 ∨ k = 2 ∨ k = 3 ∨ k = 4 ∨ k = 5 ∨ (k ≠ 1 ∧ k ≠ 2 ∧ k ≠ 3 ∧ k ≠ 4 ∧ k ≠ 5) := by omega
  rcases hc with rfl | rfl | rfl | rfl | rfl | ⟨h1, h2, h3, h4, h5⟩
  case inr.inr.inr.inr.inr =>
    have E := hideIt (show wortI k = 0 by unfold wortI; rw [if_neg (by omega), if_neg (by omega), if_neg (by omega), if_neg (by omega), if_neg (by omega)])
    have e1 : ((k : Int) == 1) = false := beq_eq_false_iff_ne.2 (by omega)
    have e2 : ((k : Int) == 2) = false := beq_eq_false_iff_ne.2 (by omega)
    have e3 : ((k : Int) == 3) = false := beq_eq_false_iff_ne.2 (by omega)
    have e4 : ((k : Int) == 4) = false := beq_eq_false_iff_ne.2 (by omega)
    have e5 : ((k : Int) == 5) = false := beq_eq_false_iff_ne.2 (by omega)
    clear h1 h2 h3 h4 h5
    go_enter Tryd.func10, Tryd.ntmps10
    go_wp2
    go_ret
    exact ⟨ret_int E.out.symm, rfl⟩
  all_goals
    go_enter Tryd.func10, Tryd.ntmps10
    go_wp2
    go_ret
    exact ⟨rfl, rfl⟩

def outI (n : Int) : Int := if n < 3 then 3 - n else if 4 < n then n - 4 else 0
def sqI (s : Int) : Int := if 0 ≤ s ∧ s < 64 then (if outI (s % 8) ≤ outI (s / 8) then outI (s / 8) else outI (s % 8)) else -1
set_option maxHeartbeats 800000 in
theorem outward_any (n : Nat) (hn : n < 8) (w : World) : Calls Tryd.prog 24 #[.int .i64 (n : Int)] w fun e w' => e = .returned (.int .i64 (outI n)) ∧ w = w' := by
  have hc : n = 0 ∨ n = 1 ∨ n = 2 ∨ n = 3 ∨ n = 4 ∨ n = 5 ∨ n = 6 ∨ n = 7 := by omega
  rcases hc with rfl | rfl | rfl | rfl | rfl | rfl | rfl | rfl
  all_goals
    go_enter Tryd.func24, Tryd.ntmps24
    go_wp2
    go_ret
    exact ⟨rfl, rfl⟩
set_option maxHeartbeats 800000 in
theorem square_any (s : Int) (w : World) : Calls Tryd.prog 11 #[.int .i64 s] w fun e w' => e = .returned (.int .i64 (sqI s)) ∧ w = w' := by
  have hc : s < 0 ∨ (0 ≤ s ∧ 64 ≤ s) ∨ (0 ≤ s ∧ s < 64) := by omega
  rcases hc with h | ⟨h, h'⟩ | ⟨h, h'⟩
  · go_enter Tryd.func11, Tryd.ntmps11
    go_wp2
    go_ret
    exact ⟨ret_int (if_neg (by omega)).symm, rfl⟩
  · go_enter Tryd.func11, Tryd.ntmps11
    go_wp2
    go_ret
    exact ⟨ret_int (if_neg (by omega)).symm, rfl⟩
  · obtain ⟨k, rfl⟩ : ∃ k : Nat, s = k := ⟨s.toNat, by omega⟩
    have E := hideIt (show sqI (k : Int) = if outI ((k : Int) % 8) ≤ outI ((k : Int) / 8) then outI ((k : Int) / 8) else outI ((k : Int) % 8) from if_pos ⟨h, h'⟩)
    go_enter Tryd.func11, Tryd.ntmps11
    go_wp2_with fail
    rw [show (k : Int) % 8 = ((k % 8 : Nat) : Int) by omega]
    refine (outward_any (k % 8) (by omega) _).mono ?_
    rintro e w1 ⟨rfl, rfl⟩
    go_wp2_with fail
    rw [show (k : Int) / 8 = ((k / 8 : Nat) : Int) by omega]
    refine (outward_any (k / 8) (by omega) _).mono ?_
    rintro e w2 ⟨rfl, rfl⟩
    go_wp2
    all_goals
      go_ret
      exact ⟨ret_int (by rw [E.out]; split <;> omega), rfl⟩

def midI (k : Nat) : Int := if k = 0 then 27 else if k = 1 then 28 else if k = 2 then 35 else 36
def lsK (s : Int) : Nat → Int
  | 0 => 9
  | k + 1 => if distI s (midI k) < lsK s k then distI s (midI k) else lsK s k
theorem ls_sq : ∀ s : Fin 64, lsK (s.val : Int) 4 = sqI (s.val : Int) := by decide +kernel
set_option maxHeartbeats 800000 in
theorem rsquare_any (s : Int) (w : World) : Calls Tryd.prog 12 #[.int .i64 s] w fun e w' => e = .returned (.int .i64 (sqI s)) ∧ Below w.heap.size w w' := by
  have hc : s < 0 ∨ (0 ≤ s ∧ 63 < s) ∨ (0 ≤ s ∧ s ≤ 63) := by omega
  rcases hc with h | ⟨h, h'⟩ | ⟨h, h'⟩
  · go_enter Tryd.func12, Tryd.ntmps12
    go_wp2
    go_ret
    exact ⟨ret_int (if_neg (by omega)).symm, Below.refl _ _⟩
  · go_enter Tryd.func12, Tryd.ntmps12
    go_wp2
    go_ret
    exact ⟨ret_int (if_neg (by omega)).symm, Below.refl _ _⟩
  · have E := hideIt (ls_sq ⟨s.toNat, by omega⟩)
    rw [show (((⟨s.toNat, by omega⟩ : Fin 64).val : Nat) : Int) = s by show ((s.toNat : Nat) : Int) = s; omega] at E
    have hm : ∀ k : Nat, k < 4 → (w.alloc (.cells #[.int .i64 27, .int .i64 28, .int .i64 35, .int .i64 36] 3)).cell? ⟨w.heap.size, k, none⟩ = some (.int .i64 (midI k)) := by
      intro k hk
      rw [World.cell?_alloc_new]
      have : k = 0 ∨ k = 1 ∨ k = 2 ∨ k = 3 := by omega
      rcases this with rfl | rfl | rfl | rfl <;> rfl
    have hb := (Below.refl w.heap.size w).alloc (Nat.le_refl _) (.cells #[.int .i64 27, .int .i64 28, .int .i64 35, .int .i64 36] 3)
    have HM := hideIt hm
    clear hm
    go_enter Tryd.func12, Tryd.ntmps12
    go_wp2
    generalize World.alloc w _ = X at HM hb ⊢
    go_loop [3, 5] (fun l i => ∃ k : Nat, k ≤ 4 ∧ i = .int .i64 k ∧ l = .int .i64 (lsK s k)) (fun _ i => 4 - (intOf i).toNat)
    case atStart => exact ⟨0, by omega, rfl, rfl⟩
    case round =>
      obtain ⟨k, hk, rfl, rfl⟩ := hrel
      by_cases hlt : k < 4
      · have cm := HM.out k hlt
        have HL := hideIt (show lsK s (k + 1) = if distI s (midI k) < lsK s k then distI s (midI k) else lsK s k from rfl)
        generalize midI k = md at cm HL
        generalize lsK s k = ls at HL
        go_wp2_with fail
        refine (rDistance_any s md _).mono ?_
        rintro e w2 ⟨rfl, rfl⟩
        by_cases hd : distI s md < ls
        · have hdd : decide (distI s md < ls) = true := decide_eq_true hd
          have HL := hideIt (HL.out.trans (if_pos hd))
          clear hd
          go_wp2
          go_round
          case rel => exact ⟨k + 1, by omega, by go_num, by rw [HL.out]⟩
          case measure => simp [intOf]; omega
        · have hdd : decide (distI s md < ls) = false := decide_eq_false hd
          have HL := hideIt (HL.out.trans (if_neg hd))
          clear hd
          go_wp2
          go_round
          case rel => exact ⟨k + 1, by omega, by go_num, by rw [HL.out]⟩
          case measure => simp [intOf]; omega
      · obtain rfl : k = 4 := by omega
        go_wp2
        go_ret
        exact ⟨ret_int E.out, hb⟩

end Go.Proofs.YtccdelpiflcipaaDoor
