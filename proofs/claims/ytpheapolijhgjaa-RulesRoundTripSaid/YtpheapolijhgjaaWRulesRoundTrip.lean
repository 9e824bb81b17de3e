/- The walk of RulesRoundTrip. -/
import Derived.Test.YtpheapolijhgjaaAw7
namespace Go.Proofs.Ytpheapolijhgjaa
open Go Go.RowKit
set_option linter.unusedVariables false

theorem nm_out {k : Nat} (h : 9 ≤ k) : nmB k = ⟨#[]⟩ := by obtain ⟨j, rfl⟩ : ∃ j, k = j + 9 := ⟨k - 9, by omega⟩; rfl
theorem nm_ne : ∀ k : Fin 9, (nmB k.val).data ≠ #[] := by decide +kernel
theorem by_name (k : Nat) : (byI (nmB k) = if k < 9 then (k : Int) else 0) ∧ byB (nmB k) = decide (k < 9) := by
  by_cases h : k < 9
  · obtain ⟨h1, h2⟩ := by_yes (nmB k) k h rfl
    rw [if_pos h, decide_eq_true h]
    exact ⟨h1.symm, h2.symm⟩
  · obtain ⟨h1, h2⟩ := by_no (nmB k) (fun j hj e => nm_ne ⟨j, hj⟩ (by rw [e, nm_out (by omega)]))
    rw [if_neg h, decide_eq_false h]
    exact ⟨h1.symm, h2.symm⟩
theorem name_eq (k j : Nat) : ((nmB k).toList == (nmB j).toList) = (decide (k = j) || (decide (9 ≤ k) && decide (9 ≤ j))) := by
  by_cases hk : k < 9
  · by_cases hj : j < 9
    · by_cases e : k = j
      · subst e; rw [str_eq _ _ rfl, decide_eq_true rfl]; rfl
      · rw [str_ne _ _ (fun h => e (by have := nm_inj ⟨k, hk⟩ ⟨j, hj⟩ (by rw [h]); injection this)), decide_eq_false e, decide_eq_false (by omega)]; rfl
    · rw [str_ne _ _ (fun h => nm_ne ⟨k, hk⟩ (by rw [h, nm_out (by omega)])), decide_eq_false (by omega), decide_eq_false (show ¬ 9 ≤ k by omega)]; rfl
  · by_cases hj : j < 9
    · rw [str_ne _ _ (fun h => nm_ne ⟨j, hj⟩ (by rw [← h, nm_out (by omega)])), decide_eq_false (by omega), decide_eq_false (show ¬ 9 ≤ j by omega), Bool.and_false]; rfl
    · rw [str_eq _ _ (by rw [nm_out (by omega), nm_out (by omega)]), decide_eq_true (show 9 ≤ k by omega), decide_eq_true (show 9 ≤ j by omega)]; simp

set_option maxHeartbeats 1600000 in
theorem trip_in (k c : Nat) (hk : k ≤ 255) (hc : c ≤ 255) (b : Bool) (h : (k < 9 ∧ k = c ∧ b = true) ∨ (k < 9 ∧ k ≠ c ∧ b = false) ∨ (9 ≤ k ∧ c < 9 ∧ b = false) ∨ (9 ≤ k ∧ 9 ≤ c ∧ b = true)) (w : World) :
    Calls Try.prog 5 #[.int .u8 (k : Int), .int .u8 (c : Int)] w fun e w' => e = .returned (.bool true) ∧ Below w.heap.size w w' := by
  have hn : ((nmB k).toList == (nmB c).toList) = b := by
    rw [name_eq]
    rcases h with ⟨h1, h2, rfl⟩ | ⟨h1, h2, rfl⟩ | ⟨h1, h2, rfl⟩ | ⟨h1, h2, rfl⟩
    · rw [decide_eq_true h2]; rfl
    · rw [decide_eq_false h2, decide_eq_false (show ¬ 9 ≤ k by omega)]; rfl
    · rw [decide_eq_false (show ¬ k = c by omega), decide_eq_false (show ¬ 9 ≤ c by omega), Bool.and_false]; rfl
    · rw [decide_eq_true h1, decide_eq_true h2]; simp
  obtain ⟨b1, b2⟩ := by_name k
  have HB1 := hideIt b1
  have HB2 := hideIt b2
  clear b1 b2
  rcases h with ⟨h1, rfl, rfl⟩ | ⟨h1, h2, rfl⟩ | ⟨h1, h2, rfl⟩ | ⟨h1, h2, rfl⟩
  · have e1 : ((k : Int) == k) = true := beq_iff_eq.2 rfl
    rw [if_pos h1] at HB1
    rw [decide_eq_true h1] at HB2
    go_enter Try.func5, Try.ntmps5
    go_wp2_with fail
    refine (vname_any k hk _).mono ?_
    rintro e w1 ⟨rfl, hb⟩
    go_wp2_with fail
    refine (byname_any _ _).mono ?_
    rw [HB1.out, HB2.out]
    rintro e w2 ⟨rfl, h1⟩
    have hb := hb.trans (h1.mono hb.size)
    clear h1
    go_wp2_with fail
    refine (vname_any k hk _).mono ?_
    rintro e w3 ⟨rfl, h1⟩
    have hb := hb.trans (h1.mono hb.size)
    clear h1
    go_wp2_with fail
    refine (vname_any k hk _).mono ?_
    rintro e w4 ⟨rfl, h1⟩
    have hb := hb.trans (h1.mono hb.size)
    clear h1
    go_wp2_with fail
    refine (awake_any _).mono ?_
    rintro e w5 ⟨rfl, h1⟩
    have hb := hb.trans (h1.mono hb.size)
    clear h1
    go_wp2
    go_ret
    exact ⟨rfl, hb⟩
  · have e1 : ((k : Int) == c) = false := beq_eq_false_iff_ne.2 (by omega)
    clear h2
    rw [if_pos h1] at HB1
    rw [decide_eq_true h1] at HB2
    go_enter Try.func5, Try.ntmps5
    go_wp2_with fail
    refine (vname_any k hk _).mono ?_
    rintro e w1 ⟨rfl, hb⟩
    go_wp2_with fail
    refine (byname_any _ _).mono ?_
    rw [HB1.out, HB2.out]
    rintro e w2 ⟨rfl, h1⟩
    have hb := hb.trans (h1.mono hb.size)
    clear h1
    go_wp2_with fail
    refine (vname_any k hk _).mono ?_
    rintro e w3 ⟨rfl, h1⟩
    have hb := hb.trans (h1.mono hb.size)
    clear h1
    go_wp2_with fail
    refine (vname_any c hc _).mono ?_
    rintro e w4 ⟨rfl, h1⟩
    have hb := hb.trans (h1.mono hb.size)
    clear h1
    go_wp2_with fail
    refine (awake_any _).mono ?_
    rintro e w5 ⟨rfl, h1⟩
    have hb := hb.trans (h1.mono hb.size)
    clear h1
    go_wp2
    go_ret
    exact ⟨rfl, hb⟩
  · have e1 : ((k : Int) == c) = false := beq_eq_false_iff_ne.2 (by omega)
    have h9 : ¬ k < 9 := by omega
    have d9 : decide ((9 : Int) ≤ c) = false := decide_eq_false (by omega)
    rw [if_neg h9] at HB1
    rw [decide_eq_false h9] at HB2
    go_enter Try.func5, Try.ntmps5
    go_wp2_with fail
    refine (vname_any k hk _).mono ?_
    rintro e w1 ⟨rfl, hb⟩
    go_wp2_with fail
    refine (byname_any _ _).mono ?_
    rw [HB1.out, HB2.out]
    rintro e w2 ⟨rfl, h1⟩
    have hb := hb.trans (h1.mono hb.size)
    clear h1
    go_wp2_with fail
    refine (vname_any k hk _).mono ?_
    rintro e w3 ⟨rfl, h1⟩
    have hb := hb.trans (h1.mono hb.size)
    clear h1
    go_wp2_with fail
    refine (vname_any c hc _).mono ?_
    rintro e w4 ⟨rfl, h1⟩
    have hb := hb.trans (h1.mono hb.size)
    clear h1
    go_wp2_with fail
    refine (awake_any _).mono ?_
    rintro e w5 ⟨rfl, h1⟩
    have hb := hb.trans (h1.mono hb.size)
    clear h1
    go_wp2
    go_ret
    exact ⟨rfl, hb⟩
  · have h9 : ¬ k < 9 := by omega
    have d9 : decide ((9 : Int) ≤ c) = true := decide_eq_true (by omega)
    by_cases e : k = c
    · have e1 : ((k : Int) == c) = true := beq_iff_eq.2 (by omega)
      clear e
      rw [if_neg h9] at HB1
      rw [decide_eq_false h9] at HB2
      go_enter Try.func5, Try.ntmps5
      go_wp2_with fail
      refine (vname_any k hk _).mono ?_
      rintro e w1 ⟨rfl, hb⟩
      go_wp2_with fail
      refine (byname_any _ _).mono ?_
      rw [HB1.out, HB2.out]
      rintro e w2 ⟨rfl, h1⟩
      have hb := hb.trans (h1.mono hb.size)
      clear h1
      go_wp2_with fail
      refine (vname_any k hk _).mono ?_
      rintro e w3 ⟨rfl, h1⟩
      have hb := hb.trans (h1.mono hb.size)
      clear h1
      go_wp2_with fail
      refine (vname_any c hc _).mono ?_
      rintro e w4 ⟨rfl, h1⟩
      have hb := hb.trans (h1.mono hb.size)
      clear h1
      go_wp2_with fail
      refine (awake_any _).mono ?_
      rintro e w5 ⟨rfl, h1⟩
      have hb := hb.trans (h1.mono hb.size)
      clear h1
      go_wp2
      go_ret
      exact ⟨rfl, hb⟩
    · have e1 : ((k : Int) == c) = false := beq_eq_false_iff_ne.2 (by omega)
      clear e
      rw [if_neg h9] at HB1
      rw [decide_eq_false h9] at HB2
      go_enter Try.func5, Try.ntmps5
      go_wp2_with fail
      refine (vname_any k hk _).mono ?_
      rintro e w1 ⟨rfl, hb⟩
      go_wp2_with fail
      refine (byname_any _ _).mono ?_
      rw [HB1.out, HB2.out]
      rintro e w2 ⟨rfl, h1⟩
      have hb := hb.trans (h1.mono hb.size)
      clear h1
      go_wp2_with fail
      refine (vname_any k hk _).mono ?_
      rintro e w3 ⟨rfl, h1⟩
      have hb := hb.trans (h1.mono hb.size)
      clear h1
      go_wp2_with fail
      refine (vname_any c hc _).mono ?_
      rintro e w4 ⟨rfl, h1⟩
      have hb := hb.trans (h1.mono hb.size)
      clear h1
      go_wp2_with fail
      refine (awake_any _).mono ?_
      rintro e w5 ⟨rfl, h1⟩
      have hb := hb.trans (h1.mono hb.size)
      clear h1
      go_wp2
      go_ret
      exact ⟨rfl, hb⟩

theorem rulesRoundTrip_walk (a0 a1 : Int) (w0 : (Lit.int .u8 a0).wf = true) (w1 : (Lit.int .u8 a1).wf = true) (w : World) :
    Calls Try.prog 5 #[.int .u8 a0, .int .u8 a1] w fun e w' => e = .returned (.bool true) ∧ Below w.heap.size w w' := by
  obtain ⟨k, rfl, hk⟩ : ∃ k : Nat, a0 = k ∧ k ≤ 255 := ⟨a0.toNat, by have := wf_u8 w0; omega, by have := wf_u8 w0; omega⟩
  obtain ⟨c, rfl, hc⟩ : ∃ c : Nat, a1 = c ∧ c ≤ 255 := ⟨a1.toNat, by have := wf_u8 w1; omega, by have := wf_u8 w1; omega⟩
  by_cases h : k < 9
  · by_cases e : k = c
    · exact trip_in k c hk hc true (.inl ⟨h, e, rfl⟩) w
    · exact trip_in k c hk hc false (.inr (.inl ⟨h, e, rfl⟩)) w
  · by_cases e : c < 9
    · exact trip_in k c hk hc false (.inr (.inr (.inl ⟨by omega, e, rfl⟩))) w
    · exact trip_in k c hk hc true (.inr (.inr (.inr ⟨by omega, by omega, rfl⟩))) w

end Go.Proofs.Ytpheapolijhgjaa
