/- Plain laws of rays, for RaysOneLine: no program here. -/
import Derived.Test.YtnbfgangmkfolaaDoorY7a
namespace Go.Proofs.YtnbfgangmkfolaaDoor
open Go

theorem tow_has {a b : Int} (h : 0 ≤ towI a b) : hasB (rayB a (towI a b)) b = true := by
  unfold towI at h ⊢
  cases e : (List.range 8).find? (fun d : Nat => hasB (rayB a d) b) with
  | none => rw [e] at h; exact absurd h (by decide)
  | some d =>
    have h2 := List.find?_some (p := fun d : Nat => hasB (rayB a d) b) e
    exact h2
theorem allA_has (a b : Int) (j : Nat) (h : hasB (rayB a j) b = true) : ∀ k, j < k → hasB (allA a k) b = true
  | 0, hk => absurd hk (Nat.not_lt_zero j)
  | k + 1, hk => by
    show hasB (allA a k ||| rayB a k) b = true
    rw [has_or]
    by_cases e : j = k
    · subst e; rw [h, Bool.or_true]
    · rw [allA_has a b j h k (by omega), Bool.true_or]
theorem tow_ray (a b : Int) (k : Nat) (hk : k < 8) (h : hasB (rayB a k) b = true) : towI a b = k := by
  refine tow_yes a b k hk (fun j hj => ?_) h
  cases e : hasB (rayB a j) b with
  | false => rfl
  | true =>
    have h1 := has_and (allA a k) (rayB a k) b
    rw [all_apart a k hk, has_zero, h, allA_has a b j e k hj] at h1
    exact absurd h1 (by decide)
theorem has_sq {x : BitVec 64} {s : Int} (h : hasB x s = true) : 0 ≤ s ∧ s < 64 := by
  by_cases e : 0 ≤ s ∧ s < 64
  · exact e
  · rw [hasB_out _ e] at h; cases h
theorem line_sq {a b : Int} (h : ¬ (lineB a b = 0#64)) : (0 ≤ a ∧ a < 64) ∧ (0 ≤ b ∧ b < 64) := by
  by_cases ha : 0 ≤ a ∧ a < 64
  · by_cases hb : 0 ≤ b ∧ b < 64
    · exact ⟨ha, hb⟩
    · exact absurd (line_none2 a hb) h
  · exact absurd (line_none1 ha b) h
theorem line_is {a b : Int} (h : ¬ (lineB a b = 0#64)) : 0 ≤ towI a b ∧ lineB a b = oneB a ||| rayB a (towI a b) ||| rayB a ((towI a b + 4) % 8) := by
  unfold lineB at h ⊢
  by_cases h1 : towI a b < 0
  · rw [if_pos h1] at h; exact absurd rfl h
  · by_cases h2 : distI a b < 1
    · rw [if_neg h1, if_pos h2] at h; exact absurd rfl h
    · rw [if_neg h1, if_neg h2]; exact ⟨by omega, rfl⟩
theorem line_of {a b : Int} (d : Int) (h : towI a b = d) (h0 : 0 ≤ d) (hd : 1 ≤ distI a b) : lineB a b = oneB a ||| rayB a d ||| rayB a ((d + 4) % 8) := by
  unfold lineB
  rw [h, if_neg (by omega), if_neg (by omega)]

theorem line_third (a b c : Int) (h : ¬ (lineB a b = 0#64)) (hc : hasB (lineB a b) c = true) (ne : c ≠ a) : lineB a c = lineB a b := by
  obtain ⟨ha, hb⟩ := line_sq h
  obtain ⟨h0, hl⟩ := line_is h
  have hcs := has_sq hc
  have hd : 1 ≤ distI a c := by
    obtain ⟨x, rfl⟩ := sq ha; obtain ⟨y, rfl⟩ := sq hcs
    exact dist_in x y (fun e => ne (by rw [e]))
  have h7 : towI a b < 8 := by rcases towI_cases a b with e | e <;> omega
  rw [hl, has_or, has_or, has_one, show decide (c = a ∧ 0 ≤ c ∧ c < 64) = false by rw [decide_eq_false_iff_not]; exact fun e => ne e.1, Bool.false_or, Bool.or_eq_true] at hc
  rw [hl]
  obtain ⟨k, hk⟩ : ∃ k : Nat, towI a b = k := ⟨(towI a b).toNat, by omega⟩
  rw [hk] at hc h7 ⊢
  rcases hc with e | e
  · exact line_of _ (tow_ray a c k (by omega) e) (by omega) hd
  · have e2 : ((k : Int) + 4) % 8 = ((k + 4) % 8 : Nat) := by omega
    rw [e2] at e ⊢
    have e3 : (((k + 4) % 8 : Nat) + 4 : Int) % 8 = k := by omega
    rw [line_of _ (tow_ray a c _ (by omega) e) (by omega) hd, e3, BitVec.or_assoc, BitVec.or_comm (rayB a _) (rayB a _), ← BitVec.or_assoc]

theorem bet_of {a b : Int} (d : Nat) (hd : d < 8) (h : hasB (rayB a d) b = true) : betB a b = rayB a d &&& rayB b (((d : Int) + 4) % 8) := by
  unfold betB
  rw [tow_ray a b d hd h, if_neg (by omega)]
theorem bet_third (a b c : Int) (hc : hasB (betB a b) c = true) : betB a c ||| betB c b = clearB (betB a b) c := by
  have hcs := has_sq hc
  have h0 : 0 ≤ towI a b := by
    rcases towI_cases a b with e | e
    · unfold betB at hc; rw [if_pos (by omega), has_zero] at hc; cases hc
    · exact e.1
  have h7 : towI a b < 8 := by rcases towI_cases a b with e | e <;> omega
  have hh := tow_has h0
  obtain ⟨k, hk⟩ : ∃ k : Nat, towI a b = k := ⟨(towI a b).toNat, by omega⟩
  rw [hk] at hh h7
  have hbs := has_sq hh
  have has : 0 ≤ a ∧ a < 64 := by
    by_cases e : 0 ≤ a ∧ a < 64
    · exact e
    · rw [ray_none1 e, has_zero] at hh; cases hh
  rw [bet_of k (by omega) hh] at hc ⊢
  rw [has_and, Bool.and_eq_true] at hc
  obtain ⟨c1, c2⟩ := hc
  rw [bet_of k (by omega) c1]
  have T : tripOk a k = true := by
    obtain ⟨x, rfl⟩ := sq has
    exact trip_in x ⟨k, by omega⟩
  have m1 : b ∈ walkL a k := by
    obtain ⟨x, rfl⟩ := sq has; obtain ⟨y, rfl⟩ := sq hbs
    have := on_ray_in x ⟨k, by omega⟩ y
    rw [hh] at this
    exact List.contains_iff_mem.1 this.symm
  have m2 : c ∈ walkL a k := by
    obtain ⟨x, rfl⟩ := sq has; obtain ⟨y, rfl⟩ := sq hcs
    have := on_ray_in x ⟨k, by omega⟩ y
    rw [c1] at this
    exact List.contains_iff_mem.1 this.symm
  unfold tripOk at T
  have T1 := List.all_eq_true.1 (List.all_eq_true.1 T b m1) c m2
  rw [c2, Bool.not_true, Bool.false_or, Bool.and_eq_true, beq_iff_eq] at T1
  rw [bet_of k (by omega) T1.1]
  exact T1.2
theorem pair_no {a b : Int} (h : lineB a b = 0#64) : betB a b = 0#64 := by
  by_cases ha : 0 ≤ a ∧ a < 64
  · by_cases hb : 0 ≤ b ∧ b < 64
    · have P : pairOk a b = true := by
        obtain ⟨x, rfl⟩ := sq ha; obtain ⟨y, rfl⟩ := sq hb; exact pair_in x y
      unfold pairOk at P
      rw [h] at P
      exact beq_iff_eq.1 P
    · exact bet_none2 a hb
  · exact bet_none1 ha b
theorem pair_yes {a b : Int} (h : ¬ (lineB a b = 0#64)) : hasB (lineB a b) a = true ∧ hasB (lineB a b) b = true ∧ betB a b &&& ~~~lineB a b = 0#64 ∧ hasB (betB a b) a = false ∧ hasB (betB a b) b = false ∧ cntB (betB a b) = distI a b - 1 := by
  obtain ⟨ha, hb⟩ := line_sq h
  have P : pairOk a b = true := by
    obtain ⟨x, rfl⟩ := sq ha; obtain ⟨y, rfl⟩ := sq hb; exact pair_in x y
  unfold pairOk at P
  rw [beq_eq_false_iff_ne.2 h] at P
  simp only [Bool.false_eq_true, if_false, Bool.and_eq_true, Bool.not_eq_true', beq_iff_eq] at P
  obtain ⟨⟨⟨⟨⟨p1, p2⟩, p3⟩, p4⟩, p5⟩, p6⟩ := P
  exact ⟨p1, p2, p3, p4, p5, p6⟩

end Go.Proofs.YtnbfgangmkfolaaDoor
