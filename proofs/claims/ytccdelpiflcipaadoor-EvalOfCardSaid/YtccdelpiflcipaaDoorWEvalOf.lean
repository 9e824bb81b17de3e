/- The walk of EvalOf. -/
import Derived.Test.YtccdelpiflcipaaDoorEC
namespace Go.Proofs.YtccdelpiflcipaaDoor
open Go Go.RowKit
set_option linter.unusedVariables false

theorem keepE {X W : World} {g : Nat} {n : Nat → Int} (h : PosAt X g n) (hT : Tab X) (hb : Below X.heap.size X W) :
    (IsPos W g ∧ rowOf W g = posA n) ∧ Tab W ∧ Below X.heap.size X W :=
  ⟨(h.below hb h.lt).rules, hT.below hb (Nat.le_refl _), hb⟩
set_option maxHeartbeats 4000000 in
theorem evalOf_walk (n : Nat → Int) (w0 : PosOk n) (w : World) (hT : Tab w) :
    Calls Tryd.prog 4 #[.agg (posA n)] w fun e w' => e = .returned (.bool true) ∧ Below w.heap.size w w' := by
  obtain ⟨z0, z1⟩ := w0.u8 0 (by decide) rfl
  obtain ⟨y0, y1⟩ := w0.u8 78 (by decide) rfl
  obtain ⟨v, hv⟩ : ∃ v : Nat, n 0 = v := ⟨(n 0).toNat, by omega⟩
  obtain ⟨t, ht⟩ : ∃ t : Nat, n 78 = t := ⟨(n 78).toNat, by omega⟩
  obtain ⟨sv, hs⟩ : ∃ x, ofW n v t = x := ⟨_, rfl⟩
  have F5 : Hid (∀ W, Tab W → Calls Tryd.prog 15 #[.agg (posA n)] W fun e w' => e = .returned (.int .i64 sv) ∧ Below W.heap.size W w') := fun W hW => by
    have := pof_any n w0 v t hv ht (by omega) (by omega) W hW
    rwa [hs] at this
  have F6 : Hid (∀ W, Calls Tryd.prog 16 #[.agg (posA n)] W fun e w' => e = .returned (.int .i64 sv) ∧ Below W.heap.size W w') := fun W => by
    have := rof_any24 n w0 v t hv ht (by omega) (by omega) W
    rwa [hs] at this
  clear hs hv ht z0 z1 y0 y1
  obtain ⟨X, hX⟩ : ∃ X, w.alloc (.cells (posA n) 31) = X := ⟨_, rfl⟩
  obtain ⟨p0, hb⟩ := box1 w n X hX
  have HX := hideIt hX
  have HTX := hideIt (hT.below hb (Nat.le_refl _))
  have HP := hideIt p0
  clear hX hT p0
  go_enter Tryd.func4, Tryd.ntmps4
  go_wp2_with (rw [HX.out])
  go_region_held3 (fun W => (IsPos W w.heap.size ∧ rowOf W w.heap.size = posA n) ∧ Tab W ∧ Below X.heap.size X W) ((refine keepE HP.out HTX.out ?_; repeat (first | exact Below.refl _ _ | assumption | refine bl_drew ?_ | refine bl_new ?_ (Nat.le_refl _) | refine bl_then ?_ (by assumption)))) ((first | (go_at_call 15; refine (F5.out _ (And.left (And.right ‹(IsPos _ _ ∧ _) ∧ Tab _ ∧ _›))).mono ?_; rintro e w31 ⟨rfl, h1⟩) | (go_at_call 16; refine (F6.out _).mono ?_; rintro e w31 ⟨rfl, h1⟩)))
  all_goals
    have hq := And.right (And.right ‹(IsPos _ _ ∧ _) ∧ Tab _ ∧ Below X.heap.size X _›)
    go_wp2
    go_ret
    exact ⟨rfl, hb.trans (hq.mono hb.size)⟩

end Go.Proofs.YtccdelpiflcipaaDoor
