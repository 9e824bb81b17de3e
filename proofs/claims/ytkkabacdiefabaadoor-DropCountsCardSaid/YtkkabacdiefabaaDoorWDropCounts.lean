/- The walk of DropCounts. -/
import Derived.Test.YtkkabacdiefabaaDoorAwD
namespace Go.Proofs.YtkkabacdiefabaaDoor
open Go Go.RowKit
set_option linter.unusedVariables false

theorem keepE {X W : World} {g : Nat} {n : Nat → Int} (h : PosAt X g n) (hT : Tab X) (hb : Below X.heap.size X W) :
    (IsPos W g ∧ rowOf W g = posA n) ∧ Tab W ∧ Below X.heap.size X W :=
  ⟨(h.below hb h.lt).rules, hT.below hb (Nat.le_refl _), hb⟩
set_option maxHeartbeats 4000000 in
theorem dropCounts_walk (n : Nat → Int) (a1 : Int) (w0 : PosOk n) (w1 : (Lit.int .u8 a1).wf = true) (w : World) (hT : Tab w) :
    Calls Tryd.prog 4 #[.agg (posA n), .int .u8 a1] w fun e w' => e = .returned (.bool true) ∧ Below w.heap.size w w' := by
  obtain ⟨x0, x1⟩ := wf_u8 w1
  obtain ⟨c, rfl⟩ : ∃ c : Nat, a1 = c := ⟨a1.toNat, by omega⟩
  obtain ⟨a, ha⟩ : ∃ x, hldI n c = x := ⟨_, rfl⟩
  obtain ⟨b, hbm⟩ : ∃ x, menI n = x := ⟨_, rfl⟩
  have F1 : Hid (∀ W, Calls Tryd.prog 13 #[.agg (posA n), .int .u8 (c : Int)] W fun e w' => e = .returned (.int .i64 a) ∧ Below W.heap.size W w') := fun W => by
    have := held15_any n w0 c (by omega) W
    rwa [ha] at this
  have F2 : Hid (∀ W, Calls Tryd.prog 14 #[.agg (posA n), .int .u8 (c : Int)] W fun e w' => e = .returned (.int .i64 a) ∧ Below W.heap.size W w') := fun W => by
    have := rheld15_any n w0 c (by omega) W
    rwa [ha] at this
  have F3 : Hid (∀ W, Calls Tryd.prog 15 #[.agg (posA n)] W fun e w' => e = .returned (.int .i64 b) ∧ Below W.heap.size W w') := fun W => by
    have := men_any n w0 W
    rwa [hbm] at this
  have F4 : Hid (∀ W, Calls Tryd.prog 16 #[.agg (posA n)] W fun e w' => e = .returned (.int .i64 b) ∧ Below W.heap.size W w') := fun W => by
    have := rmen_any n w0 W
    rwa [hbm] at this
  clear ha hbm
  obtain ⟨X, hX⟩ : ∃ X, w.alloc (.cells (posA n) 31) = X := ⟨_, rfl⟩
  obtain ⟨p0, hb⟩ := box1 w n X hX
  have HX := hideIt hX
  have HTX := hideIt (hT.below hb (Nat.le_refl _))
  have HP := hideIt p0
  clear hX hT p0
  go_enter Tryd.func4, Tryd.ntmps4
  go_wp2_with (rw [HX.out])
  go_region_held3 (fun W => (IsPos W w.heap.size ∧ rowOf W w.heap.size = posA n) ∧ Tab W ∧ Below X.heap.size X W) ((refine keepE HP.out HTX.out ?_; repeat (first | exact Below.refl _ _ | assumption | refine bl_drew ?_ | refine bl_new ?_ (Nat.le_refl _) | refine bl_then ?_ (by assumption)))) ((first | (go_at_call 13; refine (F1.out _).mono ?_; rintro e w31 ⟨rfl, h1⟩) | (go_at_call 14; refine (F2.out _).mono ?_; rintro e w31 ⟨rfl, h1⟩) | (go_at_call 15; refine (F3.out _).mono ?_; rintro e w31 ⟨rfl, h1⟩) | (go_at_call 16; refine (F4.out _).mono ?_; rintro e w31 ⟨rfl, h1⟩) | (go_at_call 12; refine (awakeD_any _ (And.left (And.right ‹(IsPos _ _ ∧ _) ∧ Tab _ ∧ _›))).mono ?_; rintro e w31 ⟨rfl, h1⟩)))
  all_goals
    have hq := And.right (And.right ‹(IsPos _ _ ∧ _) ∧ Tab _ ∧ Below X.heap.size X _›)
    go_wp2
    go_ret
    exact ⟨rfl, hb.trans (hq.mono hb.size)⟩

end Go.Proofs.YtkkabacdiefabaaDoor
