/- Walks of board: square, Put; of the reference: Put. -/
import Derived.Test.YtccdelpiflcipaaDoorPK
import Derived.Test.YtccdelpiflcipaaDoorQ
import Derived.Test.YtccdelpiflcipaaDoorQR
namespace Go.Proofs.YtccdelpiflcipaaDoor
open Go Go.RowKit

/-- A piece, or none, put on a square. -/
def putOk (s x : Int) : Bool := decide (0 ≤ s ∧ s < 64) && (x == 0 || isB x)
def putN (n : Nat → Int) (s x : Int) : Nat → Int := if putOk s x = true then upd n (1 + s.toNat) x else n

theorem bsq_any (s : Int) (w : World) :
    Calls Tryd.prog 36 #[.int .i64 s] w fun e w' => e = .returned (.bool (decide (0 ≤ s ∧ s < 64))) ∧ w = w' := by
  by_cases h : 0 ≤ s ∧ s < 64
  · have h0 := h.1
    have h1 := h.2
    rw [decide_eq_true h]
    clear h
    go_enter Tryd.func36, Tryd.ntmps36
    go_wp2
    go_ret
    exact ⟨rfl, rfl⟩
  · rw [decide_eq_false h]
    have hc : s < 0 ∨ (0 ≤ s ∧ 64 ≤ s) := by omega
    clear h
    rcases hc with h1 | ⟨h1, h2⟩
    all_goals
      go_enter Tryd.func36, Tryd.ntmps36
      go_wp2
      go_ret
      first | exact ⟨rfl, rfl⟩ | exact ⟨ret_bool (decide_eq_false (by omega)), rfl⟩

set_option maxHeartbeats 800000 in
theorem bput_yes (n : Nat → Int) (s x : Int) (h0 : 0 ≤ s) (h1 : s < 64) (hx0 : 0 ≤ x) (hx1 : x ≤ 255) (hz : x = 0 ∨ isB x = true) (w : World) :
    Calls Tryd.prog 22 #[.agg (posA n), .int .i64 s, .int .u8 x] w fun e w' => e = .returned (.agg (posA (upd n (1 + s.toNat) x))) ∧ Below w.heap.size w w' := by
  obtain ⟨X, hX⟩ : ∃ X, (w.alloc (.cells (posA n) 31)).alloc (.cells (posA zeroN) 31) = X := ⟨_, rfl⟩
  obtain ⟨p0, p1, hb⟩ := box2 w n zeroN X hX
  obtain ⟨Y, hY⟩ : ∃ Y, X.setCell ⟨w.heap.size, 1 + s.toNat, none⟩ (.int .u8 x) = Y := ⟨_, rfl⟩
  have q0 : PosAt Y w.heap.size (upd n (1 + s.toNat) x) := by rw [← hY]; exact p0.setB _ (by omega) x
  have q1 : PosAt Y (w.heap.size + 1) zeroN := by rw [← hY]; exact p1.other (by omega) _
  have hbY : Below w.heap.size w Y := by rw [← hY]; exact hb.setCell (Nat.le_refl _) _
  have c0 := p0.board (1 + s.toNat) (by omega)
  have f0 := p0.free (1 + s.toNat)
  obtain ⟨i0, r0⟩ := q0.rules
  obtain ⟨i1, r1⟩ := q1.rules
  have HX := hideIt hX
  have HY := hideIt hY
  have D := hideIt (decide_eq_true (And.intro h0 h1))
  have hzp := zeroPos
  clear hX hY
  rcases hz with rfl | hz
  · go_enter Tryd.func22, Tryd.ntmps22
    go_wp2_with (rw [HX.out])
    refine (bsq_any s _).mono ?_
    rintro e w1 ⟨rfl, rfl⟩
    rw [D.out]
    go_wp2_with (first | rw [HX.out] | rw [HY.out])
    refine bodyPost_ret (v := .agg (posA (upd n (1 + s.toNat) 0))) (pos_result Tryd.results22 _ _ _ _ rfl (q1.setRow _)) rfl ⟨rfl, below_setRow hbY (by omega) _⟩
  · have z : (x == 0) = false := by rw [beq_eq_false_iff_ne]; intro e; subst e; revert hz; decide
    have HI := hideIt hz
    clear hz
    go_enter Tryd.func22, Tryd.ntmps22
    go_wp2_with (rw [HX.out])
    refine (bsq_any s _).mono ?_
    rintro e w1 ⟨rfl, rfl⟩
    rw [D.out]
    go_wp2_with (first | rw [HX.out] | rw [HY.out] | (go_at_call 19; refine (is_any x hx0 hx1 _).mono ?_; rintro e w2 ⟨rfl, rfl⟩; rw [HI.out]))
    refine bodyPost_ret (v := .agg (posA (upd n (1 + s.toNat) x))) (pos_result Tryd.results22 _ _ _ _ rfl (q1.setRow _)) rfl ⟨rfl, below_setRow hbY (by omega) _⟩
set_option maxHeartbeats 800000 in
theorem bput_no (n : Nat → Int) (s x : Int) (hx0 : 0 ≤ x) (hx1 : x ≤ 255) (hz : ¬ (0 ≤ s ∧ s < 64) ∨ (x ≠ 0 ∧ isB x = false)) (w : World) :
    Calls Tryd.prog 22 #[.agg (posA n), .int .i64 s, .int .u8 x] w fun e w' => e = .returned (.agg (posA n)) ∧ Below w.heap.size w w' := by
  obtain ⟨X, hX⟩ : ∃ X, (w.alloc (.cells (posA n) 31)).alloc (.cells (posA zeroN) 31) = X := ⟨_, rfl⟩
  obtain ⟨p0, p1, hb⟩ := box2 w n zeroN X hX
  obtain ⟨i0, r0⟩ := p0.rules
  obtain ⟨i1, r1⟩ := p1.rules
  have HX := hideIt hX
  have hzp := zeroPos
  clear hX
  by_cases hs : 0 ≤ s ∧ s < 64
  · have hz : x ≠ 0 ∧ isB x = false := by
      rcases hz with h | h
      · exact absurd hs h
      · exact h
    have D := hideIt (decide_eq_true hs)
    have z : (x == 0) = false := beq_eq_false_iff_ne.2 hz.1
    have HI := hideIt hz.2
    clear hz hs
    go_enter Tryd.func22, Tryd.ntmps22
    go_wp2_with (rw [HX.out])
    refine (bsq_any s _).mono ?_
    rintro e w1 ⟨rfl, rfl⟩
    rw [D.out]
    go_wp2_with (first | rw [HX.out] | (go_at_call 19; refine (is_any x hx0 hx1 _).mono ?_; rintro e w2 ⟨rfl, rfl⟩; rw [HI.out]))
    refine bodyPost_ret (v := .agg (posA n)) (pos_result Tryd.results22 _ _ _ _ rfl (p1.setRow _)) rfl ⟨rfl, below_setRow hb (by omega) _⟩
  · have D := hideIt (decide_eq_false hs)
    clear hz hs
    go_enter Tryd.func22, Tryd.ntmps22
    go_wp2_with (rw [HX.out])
    refine (bsq_any s _).mono ?_
    rintro e w1 ⟨rfl, rfl⟩
    rw [D.out]
    go_wp2_with (first | rw [HX.out])
    refine bodyPost_ret (v := .agg (posA n)) (pos_result Tryd.results22 _ _ _ _ rfl (p1.setRow _)) rfl ⟨rfl, below_setRow hb (by omega) _⟩
theorem bput_any (n : Nat → Int) (s x : Int) (hx0 : 0 ≤ x) (hx1 : x ≤ 255) (w : World) :
    Calls Tryd.prog 22 #[.agg (posA n), .int .i64 s, .int .u8 x] w fun e w' => e = .returned (.agg (posA (putN n s x))) ∧ Below w.heap.size w w' := by
  unfold putN
  by_cases h : putOk s x = true
  · rw [if_pos h]
    unfold putOk at h
    rw [Bool.and_eq_true, decide_eq_true_iff, Bool.or_eq_true, beq_iff_eq] at h
    exact bput_yes n s x h.1.1 h.1.2 hx0 hx1 h.2 w
  · rw [if_neg h]
    refine bput_no n s x hx0 hx1 ?_ w
    unfold putOk at h
    rw [Bool.and_eq_true, decide_eq_true_iff, Bool.or_eq_true, beq_iff_eq] at h
    by_cases hs : 0 ≤ s ∧ s < 64
    · right
      refine ⟨fun e => h ⟨hs, .inl e⟩, ?_⟩
      cases hi : isB x with
      | false => rfl
      | true => exact absurd ⟨hs, .inr hi⟩ h
    · exact .inl hs


end Go.Proofs.YtccdelpiflcipaaDoor
