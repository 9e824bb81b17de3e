/- Plain laws of slides: no program here. -/
import Derived.Test.YtnbfgangmkfolaaDoorZ
namespace Go.Proofs.YtnbfgangmkfolaaDoor
open Go

theorem bet_ends (a b : Int) : hasB (betB a b) a = false ∧ hasB (betB a b) b = false := by
  by_cases h : lineB a b = 0#64
  · rw [pair_no h]; exact ⟨has_zero _, has_zero _⟩
  · obtain ⟨_, _, _, h4, h5, _⟩ := pair_yes h
    exact ⟨h4, h5⟩
theorem bet_put (a b t : Int) (occ : BitVec 64) (h : hasB (betB a b) t = false) : betB a b &&& putB occ t = betB a b &&& occ := by
  apply ext_has; intro k _
  rw [has_and, has_and, has_put]
  by_cases e : (k : Int) = t
  · rw [e, h, Bool.false_and, Bool.false_and]
  · simp [e]
theorem bet_clear (a b t : Int) (occ : BitVec 64) (h : hasB (betB a b) t = false) : betB a b &&& clearB occ t = betB a b &&& occ := by
  apply ext_has; intro k _
  rw [has_and, has_and, has_clear]
  by_cases e : (k : Int) = t
  · rw [e, h, Bool.false_and, Bool.false_and]
  · simp [e]
theorem back1 (a b : Int) (occ : BitVec 64) : hasB (queenB b occ) a = hasB (queenB a occ) b := by
  rw [has_queen, has_queen, line_turn, bet_turn]
theorem back2 (a b : Int) (occ : BitVec 64) : hasB (queenB a (putB occ b)) b = hasB (queenB a occ) b := by
  rw [has_queen, has_queen, bet_put _ _ _ _ (bet_ends a b).2]
theorem back3 (a b : Int) (occ : BitVec 64) : hasB (queenB a (clearB occ a)) b = hasB (queenB a occ) b := by
  rw [has_queen, has_queen, bet_clear _ _ _ _ (bet_ends a b).1]
theorem rookR_turn_in : ∀ a b : Fin 64, hasB (rookR (b.val : Int)) (a.val : Int) = hasB (rookR (a.val : Int)) (b.val : Int) := by decide +kernel
theorem rookR_none {s : Int} (h : ¬ (0 ≤ s ∧ s < 64)) : rookR s = 0#64 := by unfold rookR; rw [ray_none1 h, ray_none1 h, ray_none1 h, ray_none1 h]; rfl
theorem bishR_none {s : Int} (h : ¬ (0 ≤ s ∧ s < 64)) : bishR s = 0#64 := by unfold bishR; rw [ray_none1 h, ray_none1 h, ray_none1 h, ray_none1 h]; rfl
theorem rookR_turn (a b : Int) : hasB (rookR b) a = hasB (rookR a) b := by
  by_cases ha : 0 ≤ a ∧ a < 64
  · by_cases hb : 0 ≤ b ∧ b < 64
    · obtain ⟨x, rfl⟩ := sq ha; obtain ⟨y, rfl⟩ := sq hb; exact rookR_turn_in x y
    · rw [rookR_none hb, has_zero, hasB_out _ hb]
  · rw [rookR_none ha, has_zero, hasB_out _ ha]
theorem back4 (a b : Int) (occ : BitVec 64) : hasB (rookB b occ) a = hasB (rookB a occ) b := by
  rw [has_rook, has_rook, rookR_turn, bet_turn]

theorem none_of {b : BitVec 64} (h : ∀ s : Int, hasB b s = false) : b = 0#64 := by
  apply ext_has; intro k _; rw [h, has_zero]
theorem and_zero_has {a b : BitVec 64} (h : a &&& b = 0#64) (s : Int) (ha : hasB a s = true) : hasB b s = false := by
  have := has_and a b s
  rw [h, has_zero, ha, Bool.true_and] at this; exact this.symm
theorem sub_zero {a b c : BitVec 64} (h : a &&& b = 0#64) (hs : ∀ s : Int, hasB c s = true → hasB b s = true) : a &&& c = 0#64 := by
  apply none_of; intro s
  rw [has_and]
  cases ha : hasB a s with
  | false => rfl
  | true =>
    have hb := and_zero_has h s ha
    cases hc : hasB c s with
    | false => rfl
    | true => rw [hs s hc] at hb; cases hb
/-- With a square more occupied. -/
theorem less1 (s more : Int) (occ : BitVec 64) : queenB s (putB occ more) &&& ~~~queenB s occ = 0#64 := by
  apply none_of; intro t
  rw [has_andNot, has_queen, has_queen]
  cases hl : (lineB s t == 0#64) with
  | true => rfl
  | false =>
    cases hp : (betB s t &&& putB occ more) == 0#64 with
    | false => rfl
    | true =>
      have := sub_zero (c := occ) (beq_iff_eq.1 hp) (fun x hx => by rw [has_put, hx, Bool.true_or])
      rw [this]; rfl
theorem less2 (s : Int) (occ : BitVec 64) : queenB s occ &&& ~~~queenB s 0#64 = 0#64 := by
  apply none_of; intro t
  rw [has_andNot, has_queen, has_queen, BitVec.and_zero]
  cases (lineB s t == 0#64) <;> cases (betB s t &&& occ) == 0#64 <;> rfl
theorem less3 (s t more : Int) (occ : BitVec 64) (h : hasB (queenB s occ &&& ~~~queenB s (putB occ more)) t = true) : hasB (betB s t) more = true := by
  rw [has_andNot, has_queen, has_queen] at h
  cases hm : hasB (betB s t) more with
  | true => rfl
  | false =>
    rw [bet_put _ _ _ _ hm] at h
    revert h
    cases (lineB s t == 0#64) <;> cases (betB s t &&& occ) == 0#64 <;> decide
theorem less4 (s more : Int) (occ : BitVec 64) : hasB (queenB s (putB occ more)) more = hasB (queenB s occ) more := back2 s more occ

def kinOk (s t : Int) : Bool := if lineB s t == 0#64 then !hasB (kingB s) t else if hasB (kingB s) t then betB s t == 0#64 else !((betB s t &&& kingB s) == 0#64)
theorem kin_in : ∀ s t : Fin 64, kinOk (s.val : Int) (t.val : Int) = true := by decide +kernel
theorem kin_ok (s t : Int) : kinOk s t = true := by
  by_cases hs : 0 ≤ s ∧ s < 64
  · by_cases ht : 0 ≤ t ∧ t < 64
    · obtain ⟨x, rfl⟩ := sq hs; obtain ⟨y, rfl⟩ := sq ht; exact kin_in x y
    · unfold kinOk; rw [line_none2 s ht, hasB_out _ ht]; rfl
  · unfold kinOk; rw [line_none1 hs, kingB_none hs, has_zero]; rfl
theorem queen_king (s : Int) (occ : BitVec 64) (h : ∀ t, hasB (kingB s) t = true → hasB occ t = true) : queenB s occ = kingB s := by
  apply ext_has; intro t _
  rw [has_queen]
  have K := kin_ok s t
  unfold kinOk at K
  cases hl : (lineB s t == 0#64) with
  | true =>
    rw [hl] at K
    rw [Bool.not_true, Bool.false_and]
    simpa using K
  | false =>
    rw [hl] at K
    simp only [Bool.false_eq_true, if_false] at K
    rw [Bool.not_false, Bool.true_and]
    cases hk : hasB (kingB s) t with
    | true =>
      rw [hk] at K
      simp only [if_true] at K
      rw [beq_iff_eq.1 K, BitVec.zero_and]; rfl
    | false =>
      rw [hk] at K
      simp only [Bool.false_eq_true, if_false, Bool.not_eq_true', beq_eq_false_iff_ne] at K
      rw [beq_eq_false_iff_ne]
      intro e
      exact K (sub_zero e h)
theorem rays1 (s d : Int) : dirB s d 0#64 = rayB s d := prog_free (by rw [BitVec.and_zero])
theorem rays2 (s : Int) (occ : BitVec 64) : queenB s (occ ||| kingB s) = kingB s := queen_king s _ (fun _ h => by rw [has_or, h, Bool.or_true])
theorem has_ones {t : Int} (h : 0 ≤ t ∧ t < 64) : hasB 18446744073709551615#64 t = true := by
  obtain ⟨x, rfl⟩ := sq h
  have A : ∀ x : Fin 64, hasB 18446744073709551615#64 (x.val : Int) = true := by decide +kernel
  exact A x
theorem rays3 (s : Int) : queenB s 18446744073709551615#64 = kingB s := queen_king s _ (fun _ h => has_ones (has_sq h))
theorem dir_sub (s d : Int) (occ : BitVec 64) : dirB s d occ &&& ~~~rayB s d = 0#64 := by
  apply none_of; intro t
  rw [has_andNot]
  cases hd : hasB (dirB s d occ) t with
  | false => rfl
  | true =>
    have hall : ∀ x ∈ seeL occ (walkL s d), 0 ≤ x ∧ x < 64 := fun x hx => walk_sq (see_sub occ _ x hx)
    have := see_sub occ _ t ((has_list hall t).1 hd)
    rw [mem_ray.1 this]; rfl

def parOk (s t : Int) : Bool := (!hasB (rookR s) t || (fileI t == fileI s || rankI t == rankI s)) && (!hasB (bishR s) t || ((fileI t + rankI t + fileI s + rankI s) % 2 == 0)) && !(hasB (rookR s) t && hasB (bishR s) t) && (!(s == t) || !(hasB (rookR s) t || hasB (bishR s) t))
theorem par_in : ∀ s t : Fin 64, parOk (s.val : Int) (t.val : Int) = true := by decide +kernel
theorem par_ok (s t : Int) : parOk s t = true := by
  by_cases hs : 0 ≤ s ∧ s < 64
  · by_cases ht : 0 ≤ t ∧ t < 64
    · obtain ⟨x, rfl⟩ := sq hs; obtain ⟨y, rfl⟩ := sq ht; exact par_in x y
    · unfold parOk; rw [hasB_out _ ht, hasB_out _ ht]; cases (s == t) <;> rfl
  · unfold parOk; rw [rookR_none hs, bishR_none hs, has_zero]; cases (s == t) <;> rfl
theorem par1 (s : Int) (occ : BitVec 64) : rookB s occ &&& bishB s occ = 0#64 := by
  apply none_of; intro t
  rw [has_and, has_rook, has_bish]
  have P := par_ok s t
  unfold parOk at P
  revert P
  cases hasB (rookR s) t <;> cases hasB (bishR s) t <;> simp
theorem par2 (s : Int) (occ : BitVec 64) : hasB (rookB s occ ||| bishB s occ) s = false := by
  rw [has_or, has_rook, has_bish]
  have P := par_ok s s
  unfold parOk at P
  revert P
  cases hasB (rookR s) s <;> cases hasB (bishR s) s <;> simp
theorem par3 (s t : Int) (occ : BitVec 64) (h : hasB (rookB s occ) t = true) : (fileI t == fileI s) = true ∨ (rankI t == rankI s) = true := by
  rw [has_rook, Bool.and_eq_true] at h
  have P := par_ok s t
  unfold parOk at P
  rw [h.1] at P
  simp only [Bool.not_true, Bool.false_or, Bool.and_eq_true, Bool.or_eq_true] at P
  exact P.1.1.1
theorem par4 (s t : Int) (occ : BitVec 64) (h : hasB (bishB s occ) t = true) : ((fileI t + rankI t + fileI s + rankI s) % 2 == 0) = true := by
  rw [has_bish, Bool.and_eq_true] at h
  have P := par_ok s t
  unfold parOk at P
  rw [h.1] at P
  simp only [Bool.not_true, Bool.false_or, Bool.and_eq_true] at P
  exact P.1.1.2

theorem flipI_sq {t : Int} (h : 0 ≤ t ∧ t < 64) : 0 ≤ flipI t ∧ flipI t < 64 := by unfold flipI; omega
theorem flipI_two {t : Int} (_h : 0 ≤ t ∧ t < 64) : flipI (flipI t) = t := by unfold flipI; omega
theorem has_flip (b : BitVec 64) {t : Int} (h : 0 ≤ t ∧ t < 64) : hasB (flipB b) t = hasB b (flipI t) := by
  rw [← flip_via, Bool.eq_iff_iff, has_viaList]
  constructor
  · rintro ⟨x, h1, h2, _⟩
    have hx := has_sq h1
    rw [h2, flipI_two hx]; exact h1
  · intro h1
    exact ⟨flipI t, h1, (flipI_two h).symm, h⟩
theorem flip_and (a b : BitVec 64) : flipB (a &&& b) = flipB a &&& flipB b := by
  apply ext_has; intro k hk
  have h : 0 ≤ (k : Int) ∧ (k : Int) < 64 := by omega
  rw [has_flip _ h, has_and, has_and, has_flip _ h, has_flip _ h]
theorem flip_or (a b : BitVec 64) : flipB (a ||| b) = flipB a ||| flipB b := by
  apply ext_has; intro k hk
  have h : 0 ≤ (k : Int) ∧ (k : Int) < 64 := by omega
  rw [has_flip _ h, has_or, has_or, has_flip _ h, has_flip _ h]
theorem flip_zero_iff (a : BitVec 64) : (flipB a == 0#64) = (a == 0#64) := by
  rw [Bool.eq_iff_iff, beq_iff_eq, beq_iff_eq]
  constructor
  · intro e
    apply ext_has; intro k hk
    have h : 0 ≤ (k : Int) ∧ (k : Int) < 64 := by omega
    have := has_flip a (flipI_sq h)
    rw [e, has_zero, flipI_two h] at this
    rw [has_zero]; exact this.symm
  · intro e; rw [e]; rfl
theorem dir_flip (s d : Int) (h0 : 0 ≤ d) (h1 : d < 8) (occ : BitVec 64) : flipB (dirB s d occ) = dirB (flipS s) ((12 - d) % 8) (flipB occ) := by
  apply ext_has; intro k hk
  have h : 0 ≤ (k : Int) ∧ (k : Int) < 64 := by omega
  rw [has_flip _ h, has_dir _ _ _ h0 h1, has_dir _ _ _ (by omega) (by omega), ← ray_flip s d h0 h1, has_flip _ h]
  have e : flipS (flipI k) = (k : Int) := by rw [flipS_sq (flipI_sq h), flipI_two h]
  have e2 := bet_flip s (flipI k)
  rw [e] at e2
  rw [← e2, ← flip_and, flip_zero_iff]
theorem rook_flip (s : Int) (occ : BitVec 64) : flipB (rookB s occ) = rookB (flipS s) (flipB occ) := by
  unfold rookB
  rw [flip_or, flip_or, flip_or, dir_flip s 0 (by decide) (by decide), dir_flip s 2 (by decide) (by decide), dir_flip s 4 (by decide) (by decide), dir_flip s 6 (by decide) (by decide)]
  show dirB (flipS s) 4 (flipB occ) ||| dirB (flipS s) 2 (flipB occ) ||| dirB (flipS s) 0 (flipB occ) ||| dirB (flipS s) 6 (flipB occ) = _
  congr 1
  rw [BitVec.or_assoc, BitVec.or_comm, BitVec.or_comm (dirB (flipS s) 2 (flipB occ))]
theorem bish_flip (s : Int) (occ : BitVec 64) : flipB (bishB s occ) = bishB (flipS s) (flipB occ) := by
  unfold bishB
  rw [flip_or, flip_or, flip_or, dir_flip s 1 (by decide) (by decide), dir_flip s 3 (by decide) (by decide), dir_flip s 5 (by decide) (by decide), dir_flip s 7 (by decide) (by decide)]
  show dirB (flipS s) 3 (flipB occ) ||| dirB (flipS s) 1 (flipB occ) ||| dirB (flipS s) 7 (flipB occ) ||| dirB (flipS s) 5 (flipB occ) = _
  rw [BitVec.or_comm (dirB (flipS s) 3 (flipB occ)), BitVec.or_assoc, BitVec.or_comm (dirB (flipS s) 7 (flipB occ)), ← BitVec.or_assoc]

/-- Where it ends. -/
theorem end_cases (s d : Int) (occ : BitVec 64) :
    (dirB s d occ &&& occ = 0#64 ∧ shiftB (dirB s d occ) d &&& ~~~dirB s d occ = 0#64) ∨
    (¬ (dirB s d occ &&& occ = 0#64) ∧ cntB (dirB s d occ &&& occ) = 1 ∧ shiftB (dirB s d occ) d &&& ~~~dirB s d occ = shiftB (dirB s d occ &&& occ) d) := by
  have hall : ∀ x ∈ seeL occ (walkL s d), 0 ≤ x ∧ x < 64 := fun x hx => walk_sq (see_sub occ _ x hx)
  rcases see_cases occ (walkL s d) with ⟨h1, e⟩ | ⟨p, n, r, e, h2, h3, e2⟩
  · left
    constructor
    · apply none_of; intro t
      rw [has_and]
      cases hd : hasB (dirB s d occ) t with
      | false => rfl
      | true =>
        have := (has_list hall t).1 hd
        rw [e] at this
        rw [h1 t this]; rfl
    · have e3 : dirB s d occ = rayB s d := by unfold dirB; rw [e, ray_of]
      rw [e3]
      apply none_of; intro t
      rw [has_andNot]
      by_cases hs : 0 ≤ s ∧ s < 64 ∧ 0 ≤ d ∧ d < 8
      · obtain ⟨k, rfl⟩ : ∃ k : Nat, d = k := ⟨d.toNat, by omega⟩
        have := ray_own s k (by omega)
        have h4 := congrArg (fun b => hasB b t) this
        simp only [has_or] at h4
        revert h4
        cases hasB (shiftB (rayB s k) k) t <;> cases hasB (rayB s k) t <;> simp
      · rw [rayB_none s d hs, shiftB_zero, has_zero]; rfl
  · right
    have e4 : dirB s d occ = foldPut idI (p ++ [n]) := by unfold dirB; rw [e2]
    have hn := walk_sq (s := s) (d := d) (x := n) (by rw [e]; simp)
    have e5 : dirB s d occ &&& occ = oneB n := by
      apply ext_has'; intro t
      rw [has_and, Bool.and_eq_true, has_one, decide_eq_true_iff]
      have hl := has_list hall t
      rw [e2] at hl
      constructor
      · rintro ⟨ha, hb⟩
        have hm : t ∈ p ++ [n] := by
          apply hl.1
          rw [← e4]; exact ha
        rcases List.mem_append.1 hm with h | h
        · rw [h2 t h] at hb; cases hb
        · rw [List.mem_singleton.1 h]; exact ⟨rfl, hn⟩
      · rintro ⟨rfl, _⟩
        refine ⟨?_, h3⟩
        rw [e4]; exact hl.2 (by simp)
    rw [e5]
    refine ⟨?_, ?_, ?_⟩
    · intro h
      have := has_one n n
      rw [h, has_zero] at this
      have h6 := of_decide_eq_false this.symm
      exact h6 ⟨rfl, hn⟩
    · have C : ∀ x : Fin 64, cntB (oneB (x.val : Int)) = 1 := by decide +kernel
      obtain ⟨x, rfl⟩ := sq hn; exact C x
    · rw [e4]; exact (suf e).2

end Go.Proofs.YtnbfgangmkfolaaDoor
