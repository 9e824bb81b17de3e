/- The walk of BoardParts. -/
import Derived.Test.YtlobmhhilkmfdaaDoorWBoardAt
namespace Go.Proofs.YtlobmhhilkmfdaaDoor
open Go Go.RowKit

def prP (c i : Int) (x : Int) : Bool := decide (colI x < c ∨ (colI x = c ∧ kndI x ≤ i))
def owP (c i : Int) (x : Int) : Bool := decide (colI x = c ∧ kndI x ≤ i)
theorem has_pr (n : Nat → Int) (p : Int → Bool) (s : Int) : hasB (setN p n) s = ((atN n s != 0) && p (atN n s)) := by
  rw [has_set]
  unfold atN
  by_cases hs : 0 ≤ s ∧ s < 64
  · cases hi : isB (n (1 + s.toNat)) with
    | true => rw [if_pos ⟨hs.1, hs.2, rfl⟩, isB_pos hi, decide_eq_true hs]; rfl
    | false => rw [if_neg (fun h => by cases h.2.2)]; simp
  · rw [if_neg (fun h => hs ⟨h.1, h.2.1⟩), decide_eq_false hs]; simp
theorem at_okP (n : Nat → Int) (s : Int) : (atN n s != 0) = false ∨ ((atN n s != 0) = true ∧ 0 ≤ colI (atN n s) ∧ colI (atN n s) ≤ 1 ∧ 1 ≤ kndI (atN n s) ∧ kndI (atN n s) ≤ 6) := by
  unfold atN
  split
  · rename_i h
    right
    refine ⟨isB_pos h.2.2, ?_⟩
    have h2 := (isB_iff _).1 h.2.2
    unfold colI kndI
    rcases h2 with h2 | h2
    · rw [if_pos h2, if_pos h2]; omega
    · rw [if_neg (by omega), if_pos h2, if_neg (by omega), if_pos h2]; omega
  · left; rfl
theorem of_is (n : Nat → Int) (c k : Int) (hk : 1 ≤ k) : ofN n c k = setN (fun x => decide (colI x = c ∧ kndI x = k)) n := by
  apply ext_has; intro s _
  rw [has_of, has_pr]
  unfold wantB
  have : (k == 0) = false := beq_eq_false_iff_ne.2 (by omega)
  rw [this, Bool.false_or, Bool.and_assoc]
  congr 1
  rw [Bool.eq_iff_iff, Bool.and_eq_true, beq_iff_eq, beq_iff_eq, decide_eq_true_iff]
theorem set_ext {n : Nat → Int} {p q : Int → Bool} (h : ∀ x, 0 ≤ colI x → colI x ≤ 1 → 1 ≤ kndI x → kndI x ≤ 6 → p x = q x) : setN p n = setN q n := by
  apply ext_has; intro s _
  rw [has_pr, has_pr]
  rcases at_okP n s with e | ⟨_, e1, e2, e3, e4⟩
  · rw [e]; rfl
  · rw [h _ e1 e2 e3 e4]
theorem set_or {n : Nat → Int} (p q : Int → Bool) : setN p n ||| setN q n = setN (fun x => p x || q x) n := by
  apply ext_has; intro s _
  rw [has_or, has_pr, has_pr, has_pr]
  cases (atN n (s : Int) != 0) <;> rfl
theorem set_and0 {n : Nat → Int} {p q : Int → Bool} (h : ∀ x, (p x && q x) = false) : setN p n &&& setN q n = 0#64 := by
  apply ext_has; intro s _
  rw [has_and, has_pr, has_pr, has_zero]
  have := h (atN n s)
  revert this
  cases (atN n (s : Int) != 0) <;> cases p (atN n s) <;> cases q (atN n s) <;> decide
theorem pr_step (n : Nat → Int) (c : Nat) (i : Nat) : setN (prP c i) n ||| ofN n c ((i : Int) + 1) = setN (prP c ((i + 1 : Nat) : Int)) n := by
  rw [of_is n c _ (by omega), set_or]
  apply set_ext
  intro x _ _ h1 _
  rw [Bool.eq_iff_iff, Bool.or_eq_true]
  unfold prP
  rw [decide_eq_true_iff, decide_eq_true_iff, decide_eq_true_iff]
  omega
theorem ow_step (n : Nat → Int) (c : Nat) (i : Nat) : setN (owP c i) n ||| ofN n c ((i : Int) + 1) = setN (owP c ((i + 1 : Nat) : Int)) n := by
  rw [of_is n c _ (by omega), set_or]
  apply set_ext
  intro x _ _ h1 _
  rw [Bool.eq_iff_iff, Bool.or_eq_true]
  unfold owP
  rw [decide_eq_true_iff, decide_eq_true_iff, decide_eq_true_iff]
  omega
theorem pr_apart (n : Nat → Int) (c : Nat) (i : Nat) : setN (prP c i) n &&& ofN n c ((i : Int) + 1) = 0#64 := by
  rw [of_is n c _ (by omega)]
  apply set_and0
  intro x
  rw [← Bool.not_eq_true, Bool.and_eq_true]
  unfold prP
  rw [decide_eq_true_iff, decide_eq_true_iff]
  omega
theorem set_none {n : Nat → Int} {p : Int → Bool} (h : ∀ x, 0 ≤ colI x → 1 ≤ kndI x → p x = false) : setN p n = 0#64 := by
  apply ext_has; intro s _
  rw [has_pr, has_zero]
  rcases at_okP n s with e | ⟨_, e1, _, e3, _⟩
  · rw [e]; rfl
  · rw [h _ e1 e3, Bool.and_false]
theorem pr_zero (n : Nat → Int) : setN (prP ((0 : Nat) : Int) ((0 : Nat) : Int)) n = 0#64 := set_none (fun x h1 h2 => by unfold prP; rw [decide_eq_false_iff_not]; omega)
theorem ow_zero (n : Nat → Int) (c : Nat) : setN (owP c ((0 : Nat) : Int)) n = 0#64 := set_none (fun x h1 h2 => by unfold owP; rw [decide_eq_false_iff_not]; omega)
theorem pr_next (n : Nat → Int) (c : Nat) : setN (prP c ((6 : Nat) : Int)) n = setN (prP ((c + 1 : Nat) : Int) ((0 : Nat) : Int)) n := set_ext (fun x _ _ h1 h2 => by
  rw [Bool.eq_iff_iff]; unfold prP; rw [decide_eq_true_iff, decide_eq_true_iff]; omega)
theorem ow_end (n : Nat → Int) (c : Nat) : ofN n c 0 = setN (owP c ((6 : Nat) : Int)) n := by
  apply ext_has; intro s _
  rw [has_of, has_pr]
  rcases at_okP n s with e | ⟨e, e1, e2, e3, e4⟩
  · unfold wantB; rw [e]; rfl
  · unfold wantB owP
    rw [e, Bool.true_and, Bool.true_and, show ((0 : Int) == 0) = true from rfl, Bool.true_or, Bool.and_true, Bool.eq_iff_iff, beq_iff_eq, decide_eq_true_iff]
    omega
theorem pr_end (n : Nat → Int) : allN n = setN (prP ((2 : Nat) : Int) ((0 : Nat) : Int)) n := by
  unfold allN
  apply set_ext
  intro x h0 h1 _ _
  rw [Bool.eq_iff_iff]; unfold prP; rw [decide_eq_true_iff]
  constructor
  · intro _; left; omega
  · intro _; rfl
theorem cnt_or {a b : BitVec 64} (h : a &&& b = 0#64) : cntB (a ||| b) = cntB a + cntB b := by
  have hd : ∀ k, ¬ (a.getLsbD k = true ∧ b.getLsbD k = true) := by
    intro k hk
    have := congrArg (fun x => x.getLsbD k) h
    simp only [BitVec.getLsbD_and, hk.1, hk.2] at this
    simp at this
  have : ∀ l : List Nat, (l.filter (fun k => (a ||| b).getLsbD k)).length = (l.filter (fun k => a.getLsbD k)).length + (l.filter (fun k => b.getLsbD k)).length := by
    intro l
    induction l with
    | nil => rfl
    | cons k l ih =>
      have hk := hd k
      simp only [List.filter_cons, BitVec.getLsbD_or] at ih ⊢
      cases ha : a.getLsbD k <;> cases hb : b.getLsbD k <;> simp_all <;> omega
  unfold cntB listB listN
  rw [List.length_map, List.length_map, List.length_map]
  exact this _
theorem cnt_le (b : BitVec 64) : cntB b ≤ 64 := listB_length b

set_option maxRecDepth 100000 in
set_option maxHeartbeats 8000000 in
theorem boardParts_walk (n : Nat → Int) (w0 : PosOk n) (w : World) (hT : Tab w) :
    Calls Tryd.prog 4 #[.agg (posA n)] w fun e w' => e = .returned (.bool true) ∧ Below w.heap.size w w' := by
  obtain ⟨X, hX⟩ : ∃ X, w.alloc (.cells (posA n) 31) = X := ⟨_, rfl⟩
  obtain ⟨p0, hb⟩ := box1 w n X hX
  have HX := hideIt hX
  have HT := hideIt hT
  have hT := hT.below hb (Nat.le_refl _)
  clear hX
  go_enter Tryd.func4, Tryd.ntmps4
  go_wp2_with (first | rw [HX.out])
  refine (awake_any _ hT).mono ?_
  rintro e w1 ⟨rfl, h1⟩
  have p0 := p0.below h1 p0.lt
  have hb := hb.trans (h1.mono hb.size)
  clear h1 hT
  go_wp2
  go_loopw [3, 4, 5] (fun av nv cv wr => ∃ c : Nat, c ≤ 2 ∧ cv = .int .u8 c ∧ av = .int .u64 (u (setN (prP (c : Int) ((0 : Nat) : Int)) n)) ∧ nv = .int .i64 (cntB (setN (prP (c : Int) ((0 : Nat) : Int)) n)) ∧ PosAt wr w.heap.size n ∧ Below w.heap.size w wr) (fun _ _ cv _ => 2 - (intOf cv).toNat)
  case atStart => exact ⟨0, by omega, rfl, by rw [pr_zero]; rfl, by rw [pr_zero]; rfl, p0, hb⟩
  case round =>
    obtain ⟨c, hc, rfl, rfl, rfl, pr, hr⟩ := hrel
    clear p0 hb
    by_cases hlc : c < 2
    · have dc : decide ((c : Int) < 2) = true := decide_eq_true (by omega)
      obtain ⟨wo, hwo⟩ : ∃ wo : World, wo = wr := ⟨_, rfl⟩
      subst hwo
      have NX := hideIt (pr_next n c)
      go_wp2
      go_loopw [3, 4, 6, 7] (fun av nv ov kv wi => ∃ i : Nat, i ≤ 6 ∧ kv = .int .u8 ((i : Int) + 1) ∧ av = .int .u64 (u (setN (prP (c : Int) (i : Int)) n)) ∧ ov = .int .u64 (u (setN (owP (c : Int) (i : Int)) n)) ∧ nv = .int .i64 (cntB (setN (prP (c : Int) (i : Int)) n)) ∧ PosAt wi w.heap.size n ∧ Below w.heap.size w wi) (fun _ _ _ kv _ => 7 - (intOf kv).toNat)
      case atStart => exact ⟨0, by omega, rfl, rfl, by rw [ow_zero]; rfl, rfl, pr, hr⟩
      case round =>
        obtain ⟨i, hi, rfl, rfl, rfl, rfl, pr, hr⟩ := hrel
        by_cases hlk : i < 6
        · obtain ⟨i0, r0⟩ := pr.rules
          have C1 := hideIt (show ((cntB (setN (prP (c : Int) (i : Int)) n) : Int) + (cntB (ofN n c ((i : Int) + 1)) : Int)) = (cntB (setN (prP (c : Int) ((i + 1 : Nat) : Int)) n) : Int) by
            rw [← pr_step, cnt_or (pr_apart n c i)]; omega)
          have b1 := cnt_le (setN (prP (c : Int) (i : Int)) n)
          have b2 := cnt_le (ofN n c ((i : Int) + 1))
          have A1 := pr_apart n c i
          have S1 := hideIt (pr_step n c i)
          have S2 := hideIt (ow_step n c i)
          go_wp2_with fail
          refine (of_any n w0 c ((i : Int) + 1) _).mono ?_
          rintro e w3 ⟨rfl, h1⟩
          have pr := pr.below h1 pr.lt
          have hr := hr.trans (h1.mono hr.size)
          clear h1 i0 r0
          obtain ⟨i0, r0⟩ := pr.rules
          go_wp2_with fail
          refine (bfind_any n w0 c ((i : Int) + 1) _ (HT.out.below hr (Nat.le_refl _))).mono ?_
          rintro e w4 ⟨rfl, h1⟩
          have pr := pr.below h1 pr.lt
          have hr := hr.trans (h1.mono hr.size)
          clear h1 i0 r0
          obtain ⟨i0, r0⟩ := pr.rules
          go_wp2_with fail
          refine (first_any (ofN n c ((i : Int) + 1)) rfl _ (HT.out.below hr (Nat.le_refl _))).mono ?_
          rintro e w5 ⟨rfl, rfl⟩
          go_wp2_with fail
          refine (bcount_any n w0 c ((i : Int) + 1) _).mono ?_
          rintro e w6 ⟨rfl, h1⟩
          have pr := pr.below h1 pr.lt
          have hr := hr.trans (h1.mono hr.size)
          clear h1 i0 r0
          go_wp2_with fail
          refine (count_any (ofN n c ((i : Int) + 1)) rfl _).mono ?_
          rintro e w7 ⟨rfl, rfl⟩
          go_wp2_with fail
          refine (count_any (ofN n c ((i : Int) + 1)) rfl _).mono ?_
          rintro e w8 ⟨rfl, rfl⟩
          go_wp2
          go_roundw
          case rel => exact ⟨i + 1, by omega, by go_num, by rw [S1.out], by rw [S2.out], by rw [C1.out], pr, hr⟩
          case measure => simp [intOf]; omega
        · obtain rfl : i = 6 := by omega
          obtain ⟨i0, r0⟩ := pr.rules
          have OE := hideIt (ow_end n c)
          go_wp2_with fail
          refine (of_any n w0 c 0 _).mono ?_
          rintro e w3 ⟨rfl, h1⟩
          have pr := pr.below h1 pr.lt
          have hr := hr.trans (h1.mono hr.size)
          clear h1 i0 r0
          rw [OE.out]
          go_wp2
          go_roundw
          case rel => exact ⟨c + 1, by omega, by go_num, by rw [← NX.out]; rfl, by rw [← NX.out]; rfl, pr, hr⟩
          case measure => simp [intOf]; omega
    · obtain rfl : c = 2 := by omega
      obtain ⟨i0, r0⟩ := pr.rules
      have PE := hideIt (pr_end n)
      go_wp2_with fail
      refine (ball_any n w0 _).mono ?_
      rintro e w3 ⟨rfl, h1⟩
      have hr := hr.trans (h1.mono hr.size)
      clear h1 i0 r0
      rw [PE.out]
      go_wp2_with fail
      refine (count_any (setN (prP ((2 : Nat) : Int) ((0 : Nat) : Int)) n) rfl _).mono ?_
      rintro e w4 ⟨rfl, rfl⟩
      go_wp2
      go_ret
      exact ⟨rfl, hr⟩

end Go.Proofs.YtlobmhhilkmfdaaDoor
