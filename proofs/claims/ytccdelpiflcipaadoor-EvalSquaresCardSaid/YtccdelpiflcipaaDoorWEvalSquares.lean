/- The walk of EvalSquares. -/
import Derived.Test.YtccdelpiflcipaaDoorAwE
namespace Go.Proofs.YtccdelpiflcipaaDoor
open Go Go.RowKit
set_option linter.unusedVariables false

theorem sq_pos (s : Int) : decide (0 ≤ sqI s) = (decide (0 ≤ s) && decide (s ≤ 63)) := by
  by_cases h : 0 ≤ s ∧ s < 64
  · have := sq_bd ⟨s.toNat, by omega⟩
    rw [show (((⟨s.toNat, by omega⟩ : Fin 64).val : Nat) : Int) = s by show ((s.toNat : Nat) : Int) = s; omega] at this
    rw [decide_eq_true this.1, decide_eq_true h.1, decide_eq_true (by omega)]; rfl
  · have e : sqI s = -1 := if_neg h
    rw [e]
    by_cases h0 : 0 ≤ s
    · rw [decide_eq_true h0, decide_eq_false (show ¬ s ≤ 63 by omega)]; rfl
    · rw [decide_eq_false h0]; rfl
set_option maxHeartbeats 4000000 in
theorem evalSquares_out (a1 a2 : Int) (h : a1 < 0 ∨ 63 < a1 ∨ a2 < 0 ∨ 63 < a2) (w : World) (hT : Tab w) :
    Calls Tryd.prog 7 #[.int .i64 a1, .int .i64 a2] w fun e w' => e = .returned (.bool true) ∧ Below w.heap.size w w' := by
  have HS := hideIt (sq_pos a1)
  have h' : a1 < 0 ∨ (0 ≤ a1 ∧ 63 < a1) ∨ (0 ≤ a1 ∧ a1 ≤ 63 ∧ a2 < 0) ∨ (0 ≤ a1 ∧ a1 ≤ 63 ∧ 0 ≤ a2 ∧ 63 < a2) := by omega
  clear h
  obtain ⟨q, hq⟩ : ∃ q, sqI a1 = q := ⟨_, rfl⟩
  rw [hq] at HS
  have HQ := hideIt hq
  clear hq
  rcases h' with h0 | ⟨h0, h1⟩ | ⟨h0, h1, h2⟩ | ⟨h0, h1, h2, h3⟩
  · have HS := HS.out
    rw [decide_eq_false (show ¬ 0 ≤ a1 by omega), Bool.false_and] at HS
    go_enter Tryd.func7, Tryd.ntmps7
    go_wp2_with fail
    refine (awakeE_any _ hT).mono ?_
    rintro e w1 ⟨rfl, hb⟩
    go_wp2_with fail
    refine (square_any a1 _).mono ?_
    rw [HQ.out]
    rintro e w2 ⟨rfl, rfl⟩
    go_wp2
    go_ret
    exact ⟨rfl, hb⟩
  · have HS := HS.out
    have d2 : decide (a1 ≤ 63) = false := decide_eq_false (by omega)
    rw [d2, Bool.and_false] at HS
    go_enter Tryd.func7, Tryd.ntmps7
    go_wp2_with fail
    refine (awakeE_any _ hT).mono ?_
    rintro e w1 ⟨rfl, hb⟩
    go_wp2_with fail
    refine (square_any a1 _).mono ?_
    rw [HQ.out]
    rintro e w2 ⟨rfl, rfl⟩
    go_wp2
    go_ret
    exact ⟨rfl, hb⟩
  · have HS := HS.out
    rw [decide_eq_true h0, decide_eq_true h1, Bool.and_true] at HS
    go_enter Tryd.func7, Tryd.ntmps7
    go_wp2_with fail
    refine (awakeE_any _ hT).mono ?_
    rintro e w1 ⟨rfl, hb⟩
    go_wp2_with fail
    refine (square_any a1 _).mono ?_
    rw [HQ.out]
    rintro e w2 ⟨rfl, rfl⟩
    go_wp2
    go_ret
    exact ⟨rfl, hb⟩
  · have HS := HS.out
    rw [decide_eq_true h0, decide_eq_true h1, Bool.and_true] at HS
    go_enter Tryd.func7, Tryd.ntmps7
    go_wp2_with fail
    refine (awakeE_any _ hT).mono ?_
    rintro e w1 ⟨rfl, hb⟩
    go_wp2_with fail
    refine (square_any a1 _).mono ?_
    rw [HQ.out]
    rintro e w2 ⟨rfl, rfl⟩
    go_wp2
    go_ret
    exact ⟨rfl, hb⟩

theorem xor7F : ∀ k : Fin 64, bits .xor .i64 (k.val : Int) 7 = 8 * ((k.val : Int) / 8) + (7 - (k.val : Int) % 8) := by decide +kernel
theorem xorS7 (a : Nat) (h : a < 64) : bits .xor .i64 (a : Int) 7 = 8 * ((a : Int) / 8) + (7 - (a : Int) % 8) := xor7F ⟨a, h⟩
theorem xor56F : ∀ k : Fin 64, bits .xor .i64 (k.val : Int) 56 = 8 * (7 - (k.val : Int) / 8) + (k.val : Int) % 8 := by decide +kernel
theorem xorS56 (a : Nat) (h : a < 64) : bits .xor .i64 (a : Int) 56 = 8 * (7 - (a : Int) / 8) + (a : Int) % 8 := xor56F ⟨a, h⟩
theorem sq_7 : ∀ k : Fin 64, sqI (8 * ((k.val : Int) / 8) + (7 - (k.val : Int) % 8)) = sqI (k.val : Int) := by decide +kernel
theorem sq_56 : ∀ k : Fin 64, sqI (8 * (7 - (k.val : Int) / 8) + (k.val : Int) % 8) = sqI (k.val : Int) := by decide +kernel
theorem sq_near : ∀ a b : Fin 64, (-1 ≤ (a.val : Int) % 8 - (b.val : Int) % 8 ∧ (a.val : Int) % 8 - (b.val : Int) % 8 ≤ 1 ∧ -1 ≤ (a.val : Int) / 8 - (b.val : Int) / 8 ∧ (a.val : Int) / 8 - (b.val : Int) / 8 ≤ 1) → sqI (a.val : Int) - sqI (b.val : Int) ≤ 1 ∧ sqI (b.val : Int) - sqI (a.val : Int) ≤ 1 := by decide +kernel
theorem sq_in : ∀ s : Fin 64, 0 ≤ sqI (s.val : Int) ∧ sqI (s.val : Int) ≤ 3 := by decide +kernel
set_option maxHeartbeats 4000000 in
theorem evalSquares_in (a b : Nat) (ha : a < 64) (hb : b < 64) (w : World) (hT : Tab w) :
    Calls Tryd.prog 7 #[.int .i64 (a : Int), .int .i64 (b : Int)] w fun e w' => e = .returned (.bool true) ∧ Below w.heap.size w w' := by
  obtain ⟨q0, q1⟩ := sq_in ⟨a, ha⟩
  obtain ⟨s0, s1⟩ := sq_in ⟨b, hb⟩
  obtain ⟨q, hq⟩ : ∃ q, sqI (a : Int) = q := ⟨_, rfl⟩
  obtain ⟨s, hs⟩ : ∃ s, sqI (b : Int) = s := ⟨_, rfl⟩
  have HQ7 := hideIt ((sq_7 ⟨a, ha⟩).trans hq)
  have HQ56 := hideIt ((sq_56 ⟨a, ha⟩).trans hq)
  have HN := hideIt (sq_near ⟨a, ha⟩ ⟨b, hb⟩)
  simp only [hq, hs] at q0 q1 s0 s1 HN
  simp only at HQ7 HQ56
  have HQ := hideIt hq
  have HS := hideIt hs
  clear hq hs
  go_enter Tryd.func7, Tryd.ntmps7
  go_wp2_with fail
  refine (awakeE_any _ hT).mono ?_
  rintro e w1 ⟨rfl, hb⟩
  go_wp2_with fail
  refine (square_any a _).mono ?_
  rw [HQ.out]
  rintro e w2 ⟨rfl, rfl⟩
  have e7 := xorS7 a ha
  have e56 := xorS56 a ha
  go_wp2_with fail
  refine (square_any _ _).mono ?_
  rw [HQ7.out]
  rintro e w3 ⟨rfl, rfl⟩
  go_wp2_with fail
  refine (square_any _ _).mono ?_
  rw [HQ56.out]
  rintro e w4 ⟨rfl, rfl⟩
  clear e7 e56
  by_cases hn : -1 ≤ (a : Int) % 8 - (b : Int) % 8 ∧ (a : Int) % 8 - (b : Int) % 8 ≤ 1 ∧ -1 ≤ (a : Int) / 8 - (b : Int) / 8 ∧ (a : Int) / 8 - (b : Int) / 8 ≤ 1
  · obtain ⟨m1, m2⟩ := HN.out hn
    obtain ⟨n1, n2, n3, n4⟩ := hn
    go_wp2_with fail
    refine (square_any b _).mono ?_
    rw [HS.out]
    rintro e w5 ⟨rfl, rfl⟩
    go_wp2_with fail
    refine (square_any b _).mono ?_
    rw [HS.out]
    rintro e w6 ⟨rfl, rfl⟩
    go_wp2
    go_ret
    exact ⟨rfl, hb⟩
  · have hn' : (a : Int) % 8 - (b : Int) % 8 < -1 ∨ (-1 ≤ (a : Int) % 8 - (b : Int) % 8 ∧ 1 < (a : Int) % 8 - (b : Int) % 8) ∨ (-1 ≤ (a : Int) % 8 - (b : Int) % 8 ∧ (a : Int) % 8 - (b : Int) % 8 ≤ 1 ∧ (a : Int) / 8 - (b : Int) / 8 < -1) ∨ (-1 ≤ (a : Int) % 8 - (b : Int) % 8 ∧ (a : Int) % 8 - (b : Int) % 8 ≤ 1 ∧ -1 ≤ (a : Int) / 8 - (b : Int) / 8 ∧ 1 < (a : Int) / 8 - (b : Int) / 8) := by omega
    clear hn
    rcases hn' with n1 | ⟨n1, n2⟩ | ⟨n1, n2, n3⟩ | ⟨n1, n2, n3, n4⟩
    all_goals
      go_wp2
      go_ret
      exact ⟨rfl, hb⟩

theorem evalSquares_walk (a1 a2 : Int) (_w1 : (Lit.int .i64 a1).wf = true) (_w2 : (Lit.int .i64 a2).wf = true) (w : World) (hT : Tab w) :
    Calls Tryd.prog 7 #[.int .i64 a1, .int .i64 a2] w fun e w' => e = .returned (.bool true) ∧ Below w.heap.size w w' := by
  by_cases h : a1 < 0 ∨ 63 < a1 ∨ a2 < 0 ∨ 63 < a2
  · exact evalSquares_out a1 a2 h w hT
  · have := evalSquares_in a1.toNat a2.toNat (by omega) (by omega) w hT
    rwa [show ((a1.toNat : Nat) : Int) = a1 by omega, show ((a2.toNat : Nat) : Int) = a2 by omega] at this

end Go.Proofs.YtccdelpiflcipaaDoor
