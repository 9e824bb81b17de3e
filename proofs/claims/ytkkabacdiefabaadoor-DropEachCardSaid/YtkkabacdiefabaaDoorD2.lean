/- Walks of drop: Add, Take (written by gen_d2.py). -/
import Derived.Test.YtkkabacdiefabaaDoorD1
import Derived.Test.YtkkabacdiefabaaDoorVT
namespace Go.Proofs.YtkkabacdiefabaaDoor
open Go Go.RowKit
set_option linter.unusedVariables false

def poIx (c k : Nat) : Nat := 66 + 6 * c + k
def addB (n : Nat → Int) (c k : Nat) : Bool := fitsB c k && decide (n (poIx c k) < 255)
def addN (n : Nat → Int) (c k : Nat) : Nat → Int := if addB n c k = true then upd n (poIx c k) (n (poIx c k) + 1) else n
def takB (n : Nat → Int) (c k : Nat) : Bool := fitsB c k && !(n (poIx c k) == 0)
def takN (n : Nat → Int) (c k : Nat) : Nat → Int := if takB n c k = true then upd n (poIx c k) (n (poIx c k) - 1) else n
theorem fits_iff (c k : Nat) : fitsB c k = true ↔ (c ≤ 1 ∧ 1 ≤ k ∧ k ≤ 5) := by
  unfold fitsB
  rw [Bool.and_eq_true, Bool.and_eq_true, decide_eq_true_eq, decide_eq_true_eq, decide_eq_true_eq]
  omega


set_option maxHeartbeats 1600000 in
theorem add_yes0 (n : Nat → Int) (hn : PosOk n) (k : Nat) (k1 : 1 ≤ k) (k5 : k ≤ 5) (h : n (66 + k) < 255) (w : World) :
    Calls Tryd.prog 17 #[.agg (posA n), .int .u8 0, .int .u8 (k : Int)] w fun e w' => e = .returned (.agg (posA (addN n 0 k))) ∧ Below w.heap.size w w' := by
  have hf : fitsB (0 : Nat) k = true := (fits_iff 0 k).2 ⟨by decide, k1, k5⟩
  have hix : poIx 0 k = 66 + k := by unfold poIx; omega
  have hk8 : kindAt (66 + k) = .u8 := by
    have := kind_pock 0 k (by decide) (by omega)
    rwa [show 66 + 6 * 0 + k = 66 + k by omega] at this
  have hB : addB n 0 k = true := by
    unfold addB
    rw [hf, hix, Bool.true_and]
    exact decide_eq_true h
  have hN : addN n 0 k = upd n (66 + k) (n (66 + k) + 1) := by
    unfold addN
    rw [if_pos hB, hix]
  obtain ⟨x0, x1⟩ := hn.u8 (66 + k) (by omega) hk8
  obtain ⟨X, hX⟩ : ∃ X, (w.alloc (.cells (posA n) 31)).alloc (.cells (posA zeroN) 31) = X := ⟨_, rfl⟩
  obtain ⟨p0, p1, hb⟩ := box2 w n zeroN X hX
  have c0 := p0.cell (66 + k) (by omega)
  rw [hk8] at c0
  have f0 := p0.free (66 + k)
  obtain ⟨x, hx⟩ : ∃ x, n (66 + k) = x := ⟨_, rfl⟩
  rw [hx] at hN c0 x0 x1 h
  obtain ⟨Y, hY⟩ : ∃ Y, (X.setCell ⟨w.heap.size, 66 + k, none⟩ (.int .u8 (x + 1))).drew = Y := ⟨_, rfl⟩
  have q0 : PosAt Y w.heap.size (addN n 0 k) := by
    rw [← hY, hN]
    have := (p0.set (66 + k) (x + 1)).drew
    rwa [hk8] at this
  have q1 : PosAt Y (w.heap.size + 1) zeroN := by rw [← hY]; exact (p1.other (by omega) _).drew
  have hbY : Below w.heap.size w Y := by rw [← hY]; exact (hb.setCell (Nat.le_refl _) _).drew
  generalize addN n 0 k = m at q0 hN ⊢
  obtain ⟨i0, r0⟩ := q0.rules
  obtain ⟨i1, r1⟩ := q1.rules
  have HF := hideIt hf
  have HX := hideIt hX
  have HY := hideIt hY
  have hzp := zeroPos
  have l0 : (0 : Int) ≤ (k : Int) := by omega
  have l1 : (k : Int) < 6 := by omega
  have dx : decide (x < 255) = true := decide_eq_true h
  have W1 : IntKind.u8.wrap (x + 1) = x + 1 := IntWalk.u8_in _ (by omega)
  clear hX hY hf hN hB hx hix hk8
  go_enter Tryd.func17, Tryd.ntmps17
  go_wp2_with (rw [HX.out])
  refine (fits_any _ _ (by decide) (by decide) (by omega) (by omega) _).mono ?_
  rintro e w1 ⟨rfl, rfl⟩
  rw [show fitsB 0 (k : Int) = true from HF.out]
  go_wp2
  go_region
  all_goals
    go_wp2_with (first | rw [HY.out])
    refine bodyPost_ret (v := .agg (posA m)) (pos_result Tryd.results17 _ _ _ _ rfl (q1.setRow _)) rfl ⟨rfl, below_setRow hbY (by omega) _⟩


set_option maxHeartbeats 1600000 in
theorem tak_yes0 (n : Nat → Int) (hn : PosOk n) (k : Nat) (k1 : 1 ≤ k) (k5 : k ≤ 5) (h : n (66 + k) ≠ 0) (w : World) :
    Calls Tryd.prog 18 #[.agg (posA n), .int .u8 0, .int .u8 (k : Int)] w fun e w' => e = .returned (.tuple #[.agg (posA (takN n 0 k)), .bool true]) ∧ Below w.heap.size w w' := by
  have hf : fitsB (0 : Nat) k = true := (fits_iff 0 k).2 ⟨by decide, k1, k5⟩
  have hix : poIx 0 k = 66 + k := by unfold poIx; omega
  have hk8 : kindAt (66 + k) = .u8 := by
    have := kind_pock 0 k (by decide) (by omega)
    rwa [show 66 + 6 * 0 + k = 66 + k by omega] at this
  have hB : takB n 0 k = true := by
    unfold takB
    rw [hf, hix, Bool.true_and]
    rw [beq_eq_false_iff_ne.2 h]; rfl
  have hN : takN n 0 k = upd n (66 + k) (n (66 + k) - 1) := by
    unfold takN
    rw [if_pos hB, hix]
  obtain ⟨x0, x1⟩ := hn.u8 (66 + k) (by omega) hk8
  obtain ⟨X, hX⟩ : ∃ X, (w.alloc (.cells (posA n) 31)).alloc (.cells (posA zeroN) 31) = X := ⟨_, rfl⟩
  obtain ⟨p0, p1, hb⟩ := box2 w n zeroN X hX
  have c0 := p0.cell (66 + k) (by omega)
  rw [hk8] at c0
  have f0 := p0.free (66 + k)
  obtain ⟨x, hx⟩ : ∃ x, n (66 + k) = x := ⟨_, rfl⟩
  rw [hx] at hN c0 x0 x1 h
  obtain ⟨Y, hY⟩ : ∃ Y, (X.setCell ⟨w.heap.size, 66 + k, none⟩ (.int .u8 (x - 1))).drew = Y := ⟨_, rfl⟩
  have q0 : PosAt Y w.heap.size (takN n 0 k) := by
    rw [← hY, hN]
    have := (p0.set (66 + k) (x - 1)).drew
    rwa [hk8] at this
  have q1 : PosAt Y (w.heap.size + 1) zeroN := by rw [← hY]; exact (p1.other (by omega) _).drew
  have hbY : Below w.heap.size w Y := by rw [← hY]; exact (hb.setCell (Nat.le_refl _) _).drew
  generalize takN n 0 k = m at q0 hN ⊢
  obtain ⟨i0, r0⟩ := q0.rules
  obtain ⟨i1, r1⟩ := q1.rules
  have HF := hideIt hf
  have HX := hideIt hX
  have HY := hideIt hY
  have hzp := zeroPos
  have l0 : (0 : Int) ≤ (k : Int) := by omega
  have l1 : (k : Int) < 6 := by omega
  have dx : (x == 0) = false := beq_eq_false_iff_ne.2 h
  have W1 : IntKind.u8.wrap (x - 1) = x - 1 := IntWalk.u8_in _ (by omega)
  clear hX hY hf hN hB hx hix hk8
  go_enter Tryd.func18, Tryd.ntmps18
  go_wp2_with (rw [HX.out])
  refine (fits_any _ _ (by decide) (by decide) (by omega) (by omega) _).mono ?_
  rintro e w1 ⟨rfl, rfl⟩
  rw [show fitsB 0 (k : Int) = true from HF.out]
  go_wp2
  go_region
  all_goals
    go_wp2_with (first | rw [HY.out])
    refine bodyPost_ret (v := .tuple #[.agg (posA m), .bool true]) (pos_result2 Tryd.results18 _ _ _ _ _ rfl rfl (q1.setRow _)) rfl ⟨rfl, below_setRow hbY (by omega) _⟩


set_option maxHeartbeats 1600000 in
theorem add_yes1 (n : Nat → Int) (hn : PosOk n) (k : Nat) (k1 : 1 ≤ k) (k5 : k ≤ 5) (h : n (72 + k) < 255) (w : World) :
    Calls Tryd.prog 17 #[.agg (posA n), .int .u8 1, .int .u8 (k : Int)] w fun e w' => e = .returned (.agg (posA (addN n 1 k))) ∧ Below w.heap.size w w' := by
  have hf : fitsB (1 : Nat) k = true := (fits_iff 1 k).2 ⟨by decide, k1, k5⟩
  have hix : poIx 1 k = 72 + k := by unfold poIx; omega
  have hk8 : kindAt (72 + k) = .u8 := by
    have := kind_pock 1 k (by decide) (by omega)
    rwa [show 66 + 6 * 1 + k = 72 + k by omega] at this
  have hB : addB n 1 k = true := by
    unfold addB
    rw [hf, hix, Bool.true_and]
    exact decide_eq_true h
  have hN : addN n 1 k = upd n (72 + k) (n (72 + k) + 1) := by
    unfold addN
    rw [if_pos hB, hix]
  obtain ⟨x0, x1⟩ := hn.u8 (72 + k) (by omega) hk8
  obtain ⟨X, hX⟩ : ∃ X, (w.alloc (.cells (posA n) 31)).alloc (.cells (posA zeroN) 31) = X := ⟨_, rfl⟩
  obtain ⟨p0, p1, hb⟩ := box2 w n zeroN X hX
  have c0 := p0.cell (72 + k) (by omega)
  rw [hk8] at c0
  have f0 := p0.free (72 + k)
  obtain ⟨x, hx⟩ : ∃ x, n (72 + k) = x := ⟨_, rfl⟩
  rw [hx] at hN c0 x0 x1 h
  obtain ⟨Y, hY⟩ : ∃ Y, (X.setCell ⟨w.heap.size, 72 + k, none⟩ (.int .u8 (x + 1))).drew = Y := ⟨_, rfl⟩
  have q0 : PosAt Y w.heap.size (addN n 1 k) := by
    rw [← hY, hN]
    have := (p0.set (72 + k) (x + 1)).drew
    rwa [hk8] at this
  have q1 : PosAt Y (w.heap.size + 1) zeroN := by rw [← hY]; exact (p1.other (by omega) _).drew
  have hbY : Below w.heap.size w Y := by rw [← hY]; exact (hb.setCell (Nat.le_refl _) _).drew
  generalize addN n 1 k = m at q0 hN ⊢
  obtain ⟨i0, r0⟩ := q0.rules
  obtain ⟨i1, r1⟩ := q1.rules
  have HF := hideIt hf
  have HX := hideIt hX
  have HY := hideIt hY
  have hzp := zeroPos
  have l0 : (0 : Int) ≤ (k : Int) := by omega
  have l1 : (k : Int) < 6 := by omega
  have dx : decide (x < 255) = true := decide_eq_true h
  have W1 : IntKind.u8.wrap (x + 1) = x + 1 := IntWalk.u8_in _ (by omega)
  clear hX hY hf hN hB hx hix hk8
  go_enter Tryd.func17, Tryd.ntmps17
  go_wp2_with (rw [HX.out])
  refine (fits_any _ _ (by decide) (by decide) (by omega) (by omega) _).mono ?_
  rintro e w1 ⟨rfl, rfl⟩
  rw [show fitsB 1 (k : Int) = true from HF.out]
  go_wp2
  go_region
  all_goals
    go_wp2_with (first | rw [HY.out])
    refine bodyPost_ret (v := .agg (posA m)) (pos_result Tryd.results17 _ _ _ _ rfl (q1.setRow _)) rfl ⟨rfl, below_setRow hbY (by omega) _⟩


set_option maxHeartbeats 1600000 in
theorem tak_yes1 (n : Nat → Int) (hn : PosOk n) (k : Nat) (k1 : 1 ≤ k) (k5 : k ≤ 5) (h : n (72 + k) ≠ 0) (w : World) :
    Calls Tryd.prog 18 #[.agg (posA n), .int .u8 1, .int .u8 (k : Int)] w fun e w' => e = .returned (.tuple #[.agg (posA (takN n 1 k)), .bool true]) ∧ Below w.heap.size w w' := by
  have hf : fitsB (1 : Nat) k = true := (fits_iff 1 k).2 ⟨by decide, k1, k5⟩
  have hix : poIx 1 k = 72 + k := by unfold poIx; omega
  have hk8 : kindAt (72 + k) = .u8 := by
    have := kind_pock 1 k (by decide) (by omega)
    rwa [show 66 + 6 * 1 + k = 72 + k by omega] at this
  have hB : takB n 1 k = true := by
    unfold takB
    rw [hf, hix, Bool.true_and]
    rw [beq_eq_false_iff_ne.2 h]; rfl
  have hN : takN n 1 k = upd n (72 + k) (n (72 + k) - 1) := by
    unfold takN
    rw [if_pos hB, hix]
  obtain ⟨x0, x1⟩ := hn.u8 (72 + k) (by omega) hk8
  obtain ⟨X, hX⟩ : ∃ X, (w.alloc (.cells (posA n) 31)).alloc (.cells (posA zeroN) 31) = X := ⟨_, rfl⟩
  obtain ⟨p0, p1, hb⟩ := box2 w n zeroN X hX
  have c0 := p0.cell (72 + k) (by omega)
  rw [hk8] at c0
  have f0 := p0.free (72 + k)
  obtain ⟨x, hx⟩ : ∃ x, n (72 + k) = x := ⟨_, rfl⟩
  rw [hx] at hN c0 x0 x1 h
  obtain ⟨Y, hY⟩ : ∃ Y, (X.setCell ⟨w.heap.size, 72 + k, none⟩ (.int .u8 (x - 1))).drew = Y := ⟨_, rfl⟩
  have q0 : PosAt Y w.heap.size (takN n 1 k) := by
    rw [← hY, hN]
    have := (p0.set (72 + k) (x - 1)).drew
    rwa [hk8] at this
  have q1 : PosAt Y (w.heap.size + 1) zeroN := by rw [← hY]; exact (p1.other (by omega) _).drew
  have hbY : Below w.heap.size w Y := by rw [← hY]; exact (hb.setCell (Nat.le_refl _) _).drew
  generalize takN n 1 k = m at q0 hN ⊢
  obtain ⟨i0, r0⟩ := q0.rules
  obtain ⟨i1, r1⟩ := q1.rules
  have HF := hideIt hf
  have HX := hideIt hX
  have HY := hideIt hY
  have hzp := zeroPos
  have l0 : (0 : Int) ≤ (k : Int) := by omega
  have l1 : (k : Int) < 6 := by omega
  have dx : (x == 0) = false := beq_eq_false_iff_ne.2 h
  have W1 : IntKind.u8.wrap (x - 1) = x - 1 := IntWalk.u8_in _ (by omega)
  clear hX hY hf hN hB hx hix hk8
  go_enter Tryd.func18, Tryd.ntmps18
  go_wp2_with (rw [HX.out])
  refine (fits_any _ _ (by decide) (by decide) (by omega) (by omega) _).mono ?_
  rintro e w1 ⟨rfl, rfl⟩
  rw [show fitsB 1 (k : Int) = true from HF.out]
  go_wp2
  go_region
  all_goals
    go_wp2_with (first | rw [HY.out])
    refine bodyPost_ret (v := .tuple #[.agg (posA m), .bool true]) (pos_result2 Tryd.results18 _ _ _ _ _ rfl rfl (q1.setRow _)) rfl ⟨rfl, below_setRow hbY (by omega) _⟩


set_option maxHeartbeats 1600000 in
theorem add_noF (n : Nat → Int) (hn : PosOk n) (c k : Nat) (hc : c ≤ 255) (hk : k ≤ 255) (hf : fitsB c k = false) (w : World) :
    Calls Tryd.prog 17 #[.agg (posA n), .int .u8 (c : Int), .int .u8 (k : Int)] w fun e w' => e = .returned (.agg (posA n)) ∧ Below w.heap.size w w' := by
  obtain ⟨X, hX⟩ : ∃ X, (w.alloc (.cells (posA n) 31)).alloc (.cells (posA zeroN) 31) = X := ⟨_, rfl⟩
  obtain ⟨p0, p1, hb⟩ := box2 w n zeroN X hX
  obtain ⟨i0, r0⟩ := p0.rules
  obtain ⟨i1, r1⟩ := p1.rules
  have HF := hideIt hf
  have HX := hideIt hX
  have hzp := zeroPos
  clear hX hf
  go_enter Tryd.func17, Tryd.ntmps17
  go_wp2_with (rw [HX.out])
  refine (fits_any _ _ (by omega) (by omega) (by omega) (by omega) _).mono ?_
  rintro e w1 ⟨rfl, rfl⟩
  rw [HF.out]
  go_wp2
  refine bodyPost_ret (v := .agg (posA n)) (pos_result Tryd.results17 _ _ _ _ rfl (p1.setRow _)) rfl ⟨rfl, below_setRow hb (by omega) _⟩


set_option maxHeartbeats 1600000 in
theorem add_no0 (n : Nat → Int) (hn : PosOk n) (k : Nat) (k1 : 1 ≤ k) (k5 : k ≤ 5) (h : ¬ n (66 + k) < 255) (w : World) :
    Calls Tryd.prog 17 #[.agg (posA n), .int .u8 0, .int .u8 (k : Int)] w fun e w' => e = .returned (.agg (posA n)) ∧ Below w.heap.size w w' := by
  have hf : fitsB (0 : Nat) k = true := (fits_iff 0 k).2 ⟨by decide, k1, k5⟩
  have hk8 : kindAt (66 + k) = .u8 := by
    have := kind_pock 0 k (by decide) (by omega)
    rwa [show 66 + 6 * 0 + k = 66 + k by omega] at this
  obtain ⟨x0, x1⟩ := hn.u8 (66 + k) (by omega) hk8
  obtain ⟨X, hX⟩ : ∃ X, (w.alloc (.cells (posA n) 31)).alloc (.cells (posA zeroN) 31) = X := ⟨_, rfl⟩
  obtain ⟨p0, p1, hb⟩ := box2 w n zeroN X hX
  have c0 := p0.cell (66 + k) (by omega)
  rw [hk8] at c0
  obtain ⟨x, hx⟩ : ∃ x, n (66 + k) = x := ⟨_, rfl⟩
  rw [hx] at c0 x0 x1 h
  obtain ⟨i0, r0⟩ := p0.rules
  obtain ⟨i1, r1⟩ := p1.rules
  have HF := hideIt hf
  have HX := hideIt hX
  have hzp := zeroPos
  have l0 : (0 : Int) ≤ (k : Int) := by omega
  have l1 : (k : Int) < 6 := by omega
  have dx : decide (x < 255) = false := decide_eq_false h
  clear hX hf hx hk8 h
  go_enter Tryd.func17, Tryd.ntmps17
  go_wp2_with (rw [HX.out])
  refine (fits_any _ _ (by decide) (by decide) (by omega) (by omega) _).mono ?_
  rintro e w1 ⟨rfl, rfl⟩
  rw [show fitsB 0 (k : Int) = true from HF.out]
  go_wp2
  refine bodyPost_ret (v := .agg (posA n)) (pos_result Tryd.results17 _ _ _ _ rfl (p1.setRow _)) rfl ⟨rfl, below_setRow hb (by omega) _⟩


set_option maxHeartbeats 1600000 in
theorem add_no1 (n : Nat → Int) (hn : PosOk n) (k : Nat) (k1 : 1 ≤ k) (k5 : k ≤ 5) (h : ¬ n (72 + k) < 255) (w : World) :
    Calls Tryd.prog 17 #[.agg (posA n), .int .u8 1, .int .u8 (k : Int)] w fun e w' => e = .returned (.agg (posA n)) ∧ Below w.heap.size w w' := by
  have hf : fitsB (1 : Nat) k = true := (fits_iff 1 k).2 ⟨by decide, k1, k5⟩
  have hk8 : kindAt (72 + k) = .u8 := by
    have := kind_pock 1 k (by decide) (by omega)
    rwa [show 66 + 6 * 1 + k = 72 + k by omega] at this
  obtain ⟨x0, x1⟩ := hn.u8 (72 + k) (by omega) hk8
  obtain ⟨X, hX⟩ : ∃ X, (w.alloc (.cells (posA n) 31)).alloc (.cells (posA zeroN) 31) = X := ⟨_, rfl⟩
  obtain ⟨p0, p1, hb⟩ := box2 w n zeroN X hX
  have c0 := p0.cell (72 + k) (by omega)
  rw [hk8] at c0
  obtain ⟨x, hx⟩ : ∃ x, n (72 + k) = x := ⟨_, rfl⟩
  rw [hx] at c0 x0 x1 h
  obtain ⟨i0, r0⟩ := p0.rules
  obtain ⟨i1, r1⟩ := p1.rules
  have HF := hideIt hf
  have HX := hideIt hX
  have hzp := zeroPos
  have l0 : (0 : Int) ≤ (k : Int) := by omega
  have l1 : (k : Int) < 6 := by omega
  have dx : decide (x < 255) = false := decide_eq_false h
  clear hX hf hx hk8 h
  go_enter Tryd.func17, Tryd.ntmps17
  go_wp2_with (rw [HX.out])
  refine (fits_any _ _ (by decide) (by decide) (by omega) (by omega) _).mono ?_
  rintro e w1 ⟨rfl, rfl⟩
  rw [show fitsB 1 (k : Int) = true from HF.out]
  go_wp2
  refine bodyPost_ret (v := .agg (posA n)) (pos_result Tryd.results17 _ _ _ _ rfl (p1.setRow _)) rfl ⟨rfl, below_setRow hb (by omega) _⟩


theorem add_any (n : Nat → Int) (hn : PosOk n) (c k : Nat) (hc : c ≤ 255) (hk : k ≤ 255) (w : World) :
    Calls Tryd.prog 17 #[.agg (posA n), .int .u8 (c : Int), .int .u8 (k : Int)] w fun e w' => e = .returned (.agg (posA (addN n c k))) ∧ Below w.heap.size w w' := by
  cases hB : addB n c k with
  | true =>
    have h := hB
    unfold addB at h
    rw [Bool.and_eq_true, fits_iff] at h
    obtain ⟨⟨hc1, k1, k5⟩, h2⟩ := h
    have : c = 0 ∨ c = 1 := by omega
    rcases this with rfl | rfl
    · exact add_yes0 n hn k k1 k5 (by have := of_decide_eq_true h2; simpa [poIx] using this) w
    · exact add_yes1 n hn k k1 k5 (by have := of_decide_eq_true h2; simpa [poIx] using this) w
  | false =>
    have hN : addN n c k = n := by unfold addN; rw [hB]; rfl
    rw [hN]
    cases hf : fitsB c k with
    | false => exact add_noF n hn c k hc hk hf w
    | true =>
      have h2 := hB
      unfold addB at h2
      rw [hf, Bool.true_and] at h2
      rw [fits_iff] at hf
      obtain ⟨hc1, k1, k5⟩ := hf
      have : c = 0 ∨ c = 1 := by omega
      rcases this with rfl | rfl
      · exact add_no0 n hn k k1 k5 (by have := of_decide_eq_false h2; simpa [poIx] using this) w
      · exact add_no1 n hn k k1 k5 (by have := of_decide_eq_false h2; simpa [poIx] using this) w


set_option maxHeartbeats 1600000 in
theorem tak_noF (n : Nat → Int) (hn : PosOk n) (c k : Nat) (hc : c ≤ 255) (hk : k ≤ 255) (hf : fitsB c k = false) (w : World) :
    Calls Tryd.prog 18 #[.agg (posA n), .int .u8 (c : Int), .int .u8 (k : Int)] w fun e w' => e = .returned (.tuple #[.agg (posA n), .bool false]) ∧ Below w.heap.size w w' := by
  obtain ⟨X, hX⟩ : ∃ X, (w.alloc (.cells (posA n) 31)).alloc (.cells (posA zeroN) 31) = X := ⟨_, rfl⟩
  obtain ⟨p0, p1, hb⟩ := box2 w n zeroN X hX
  obtain ⟨i0, r0⟩ := p0.rules
  obtain ⟨i1, r1⟩ := p1.rules
  have HF := hideIt hf
  have HX := hideIt hX
  have hzp := zeroPos
  clear hX hf
  go_enter Tryd.func18, Tryd.ntmps18
  go_wp2_with (rw [HX.out])
  refine (fits_any _ _ (by omega) (by omega) (by omega) (by omega) _).mono ?_
  rintro e w1 ⟨rfl, rfl⟩
  rw [HF.out]
  go_wp2
  refine bodyPost_ret (v := .tuple #[.agg (posA n), .bool false]) (pos_result2 Tryd.results18 _ _ _ _ _ rfl rfl (p1.setRow _)) rfl ⟨rfl, below_setRow hb (by omega) _⟩


set_option maxHeartbeats 1600000 in
theorem tak_no0 (n : Nat → Int) (hn : PosOk n) (k : Nat) (k1 : 1 ≤ k) (k5 : k ≤ 5) (h : n (66 + k) = 0) (w : World) :
    Calls Tryd.prog 18 #[.agg (posA n), .int .u8 0, .int .u8 (k : Int)] w fun e w' => e = .returned (.tuple #[.agg (posA n), .bool false]) ∧ Below w.heap.size w w' := by
  have hf : fitsB (0 : Nat) k = true := (fits_iff 0 k).2 ⟨by decide, k1, k5⟩
  have hk8 : kindAt (66 + k) = .u8 := by
    have := kind_pock 0 k (by decide) (by omega)
    rwa [show 66 + 6 * 0 + k = 66 + k by omega] at this
  obtain ⟨x0, x1⟩ := hn.u8 (66 + k) (by omega) hk8
  obtain ⟨X, hX⟩ : ∃ X, (w.alloc (.cells (posA n) 31)).alloc (.cells (posA zeroN) 31) = X := ⟨_, rfl⟩
  obtain ⟨p0, p1, hb⟩ := box2 w n zeroN X hX
  have c0 := p0.cell (66 + k) (by omega)
  rw [hk8] at c0
  obtain ⟨x, hx⟩ : ∃ x, n (66 + k) = x := ⟨_, rfl⟩
  rw [hx] at c0 x0 x1 h
  obtain ⟨i0, r0⟩ := p0.rules
  obtain ⟨i1, r1⟩ := p1.rules
  have HF := hideIt hf
  have HX := hideIt hX
  have hzp := zeroPos
  have l0 : (0 : Int) ≤ (k : Int) := by omega
  have l1 : (k : Int) < 6 := by omega
  have dx : (x == 0) = true := beq_iff_eq.2 h
  clear hX hf hx hk8 h
  go_enter Tryd.func18, Tryd.ntmps18
  go_wp2_with (rw [HX.out])
  refine (fits_any _ _ (by decide) (by decide) (by omega) (by omega) _).mono ?_
  rintro e w1 ⟨rfl, rfl⟩
  rw [show fitsB 0 (k : Int) = true from HF.out]
  go_wp2
  refine bodyPost_ret (v := .tuple #[.agg (posA n), .bool false]) (pos_result2 Tryd.results18 _ _ _ _ _ rfl rfl (p1.setRow _)) rfl ⟨rfl, below_setRow hb (by omega) _⟩


set_option maxHeartbeats 1600000 in
theorem tak_no1 (n : Nat → Int) (hn : PosOk n) (k : Nat) (k1 : 1 ≤ k) (k5 : k ≤ 5) (h : n (72 + k) = 0) (w : World) :
    Calls Tryd.prog 18 #[.agg (posA n), .int .u8 1, .int .u8 (k : Int)] w fun e w' => e = .returned (.tuple #[.agg (posA n), .bool false]) ∧ Below w.heap.size w w' := by
  have hf : fitsB (1 : Nat) k = true := (fits_iff 1 k).2 ⟨by decide, k1, k5⟩
  have hk8 : kindAt (72 + k) = .u8 := by
    have := kind_pock 1 k (by decide) (by omega)
    rwa [show 66 + 6 * 1 + k = 72 + k by omega] at this
  obtain ⟨x0, x1⟩ := hn.u8 (72 + k) (by omega) hk8
  obtain ⟨X, hX⟩ : ∃ X, (w.alloc (.cells (posA n) 31)).alloc (.cells (posA zeroN) 31) = X := ⟨_, rfl⟩
  obtain ⟨p0, p1, hb⟩ := box2 w n zeroN X hX
  have c0 := p0.cell (72 + k) (by omega)
  rw [hk8] at c0
  obtain ⟨x, hx⟩ : ∃ x, n (72 + k) = x := ⟨_, rfl⟩
  rw [hx] at c0 x0 x1 h
  obtain ⟨i0, r0⟩ := p0.rules
  obtain ⟨i1, r1⟩ := p1.rules
  have HF := hideIt hf
  have HX := hideIt hX
  have hzp := zeroPos
  have l0 : (0 : Int) ≤ (k : Int) := by omega
  have l1 : (k : Int) < 6 := by omega
  have dx : (x == 0) = true := beq_iff_eq.2 h
  clear hX hf hx hk8 h
  go_enter Tryd.func18, Tryd.ntmps18
  go_wp2_with (rw [HX.out])
  refine (fits_any _ _ (by decide) (by decide) (by omega) (by omega) _).mono ?_
  rintro e w1 ⟨rfl, rfl⟩
  rw [show fitsB 1 (k : Int) = true from HF.out]
  go_wp2
  refine bodyPost_ret (v := .tuple #[.agg (posA n), .bool false]) (pos_result2 Tryd.results18 _ _ _ _ _ rfl rfl (p1.setRow _)) rfl ⟨rfl, below_setRow hb (by omega) _⟩


theorem tak_any (n : Nat → Int) (hn : PosOk n) (c k : Nat) (hc : c ≤ 255) (hk : k ≤ 255) (w : World) :
    Calls Tryd.prog 18 #[.agg (posA n), .int .u8 (c : Int), .int .u8 (k : Int)] w fun e w' => e = .returned (.tuple #[.agg (posA (takN n c k)), .bool (takB n c k)]) ∧ Below w.heap.size w w' := by
  cases hB : takB n c k with
  | true =>
    have h := hB
    unfold takB at h
    rw [Bool.and_eq_true, fits_iff] at h
    obtain ⟨⟨hc1, k1, k5⟩, h2⟩ := h
    have : c = 0 ∨ c = 1 := by omega
    rcases this with rfl | rfl
    · exact tak_yes0 n hn k k1 k5 (by simpa [poIx] using h2) w
    · exact tak_yes1 n hn k k1 k5 (by simpa [poIx] using h2) w
  | false =>
    have hN : takN n c k = n := by unfold takN; rw [hB]; rfl
    rw [hN]
    cases hf : fitsB c k with
    | false => exact tak_noF n hn c k hc hk hf w
    | true =>
      have h2 := hB
      unfold takB at h2
      rw [hf, Bool.true_and] at h2
      rw [fits_iff] at hf
      obtain ⟨hc1, k1, k5⟩ := hf
      have : c = 0 ∨ c = 1 := by omega
      rcases this with rfl | rfl
      · exact tak_no0 n hn k k1 k5 (by simpa [poIx] using h2) w
      · exact tak_no1 n hn k k1 k5 (by simpa [poIx] using h2) w


end Go.Proofs.YtkkabacdiefabaaDoor
