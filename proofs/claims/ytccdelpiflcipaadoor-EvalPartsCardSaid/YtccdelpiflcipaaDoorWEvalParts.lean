/- The walk of EvalParts. -/
import Derived.Test.YtccdelpiflcipaaDoorEC
namespace Go.Proofs.YtccdelpiflcipaaDoor
open Go Go.RowKit
set_option linter.unusedVariables false

theorem keepE {X W : World} {g : Nat} {n : Nat → Int} (h : PosAt X g n) (hT : Tab X) (hb : Below X.heap.size X W) :
    (IsPos W g ∧ rowOf W g = posA n) ∧ Tab W ∧ Below X.heap.size X W :=
  ⟨(h.below hb h.lt).rules, hT.below hb (Nat.le_refl _), hb⟩
set_option maxHeartbeats 4000000 in
theorem evalParts_walk (n : Nat → Int) (a1 a2 a3 : Int) (w0 : PosOk n) (w1 : (Lit.int .u8 a1).wf = true) (w2 : (Lit.int .u8 a2).wf = true) (_w3 : (Lit.int .i64 a3).wf = true) (w : World) (hT : Tab w) :
    Calls Tryd.prog 3 #[.agg (posA n), .int .u8 a1, .int .u8 a2, .int .i64 a3] w fun e w' => e = .returned (.bool true) ∧ Below w.heap.size w w' := by
  obtain ⟨x0, x1⟩ := wf_u8 w1
  obtain ⟨y0, y1⟩ := wf_u8 w2
  obtain ⟨z0, z1⟩ := w0.u8 0 (by decide) rfl
  obtain ⟨c, rfl⟩ : ∃ c : Nat, a1 = c := ⟨a1.toNat, by omega⟩
  obtain ⟨k, rfl⟩ : ∃ k : Nat, a2 = k := ⟨a2.toNat, by omega⟩
  obtain ⟨v, hv⟩ : ∃ v : Nat, n 0 = v := ⟨(n 0).toNat, by omega⟩
  obtain ⟨pv, hp⟩ : ∃ x, wortI (k : Int) = x := ⟨_, rfl⟩
  obtain ⟨qv, hq⟩ : ∃ x, sqI a3 = x := ⟨_, rfl⟩
  obtain ⟨sv, hs⟩ : ∃ x, worthI n v c = x := ⟨_, rfl⟩
  have F1 : Hid (∀ W, Calls Tryd.prog 9 #[.int .u8 (k : Int)] W fun e w' => e = .returned (.int .i64 pv) ∧ Below W.heap.size W w') := fun W => by
    have := piece_any k (by omega) W
    rwa [hp] at this
  have F2 : Hid (∀ W, Calls Tryd.prog 10 #[.int .u8 (k : Int)] W fun e w' => e = .returned (.int .i64 pv) ∧ W = w') := fun W => by
    have := rpiece_any k (by omega) W
    rwa [hp] at this
  have F3 : Hid (∀ W, Calls Tryd.prog 11 #[.int .i64 a3] W fun e w' => e = .returned (.int .i64 qv) ∧ W = w') := fun W => by
    have := square_any a3 W
    rwa [hq] at this
  have F4 : Hid (∀ W, Calls Tryd.prog 12 #[.int .i64 a3] W fun e w' => e = .returned (.int .i64 qv) ∧ Below W.heap.size W w') := fun W => by
    have := rsquare_any a3 W
    rwa [hq] at this
  have F5 : Hid (∀ W, Tab W → Calls Tryd.prog 13 #[.agg (posA n), .int .u8 (c : Int)] W fun e w' => e = .returned (.int .i64 sv) ∧ Below W.heap.size W w') := fun W hW => by
    have := side_any n w0 v c hv (by omega) (by omega) W hW
    rwa [hs] at this
  have F6 : Hid (∀ W, Calls Tryd.prog 14 #[.agg (posA n), .int .u8 (c : Int)] W fun e w' => e = .returned (.int .i64 sv) ∧ Below W.heap.size W w') := fun W => by
    have := rside_any n w0 v c hv (by omega) (by omega) W
    rwa [hs] at this
  clear hp hq hs hv z0 z1 y0 y1
  obtain ⟨X, hX⟩ : ∃ X, w.alloc (.cells (posA n) 31) = X := ⟨_, rfl⟩
  obtain ⟨p0, hb⟩ := box1 w n X hX
  have HX := hideIt hX
  have HTX := hideIt (hT.below hb (Nat.le_refl _))
  have HP := hideIt p0
  clear hX hT p0
  go_enter Tryd.func3, Tryd.ntmps3
  go_wp2_with (rw [HX.out])
  go_region_held3 (fun W => (IsPos W w.heap.size ∧ rowOf W w.heap.size = posA n) ∧ Tab W ∧ Below X.heap.size X W) ((refine keepE HP.out HTX.out ?_; repeat (first | exact Below.refl _ _ | assumption | refine bl_drew ?_ | refine bl_new ?_ (Nat.le_refl _) | refine bl_then ?_ (by assumption)))) ((first | (go_at_call 9; refine (F1.out _).mono ?_; rintro e w31 ⟨rfl, h1⟩) | (go_at_call 10; refine (F2.out _).mono ?_; rintro e w31 ⟨rfl, rfl⟩) | (go_at_call 11; refine (F3.out _).mono ?_; rintro e w31 ⟨rfl, rfl⟩) | (go_at_call 12; refine (F4.out _).mono ?_; rintro e w31 ⟨rfl, h1⟩) | (go_at_call 13; refine (F5.out _ (And.left (And.right ‹(IsPos _ _ ∧ _) ∧ Tab _ ∧ _›))).mono ?_; rintro e w31 ⟨rfl, h1⟩) | (go_at_call 14; refine (F6.out _).mono ?_; rintro e w31 ⟨rfl, h1⟩)))
  all_goals
    have hq := And.right (And.right ‹(IsPos _ _ ∧ _) ∧ Tab _ ∧ Below X.heap.size X _›)
    go_wp2
    go_ret
    exact ⟨rfl, hb.trans (hq.mono hb.size)⟩

end Go.Proofs.YtccdelpiflcipaaDoor
