/- The walk of BoardSets. -/
import Derived.Test.YtlobmhhilkmfdaaDoorPF
import Derived.Deep.RegionHeld3
namespace Go.Proofs.YtlobmhhilkmfdaaDoor
open Go Go.RowKit

theorem owns_len {w : World} {B : Nat} {v : Value} {l : List Int} (h : OwnsI w B v l) : ∃ a c, v = .slice a l.length c := by
  rcases h.form with ⟨rfl, a, c, rfl⟩ | ⟨g, c, rfl, _⟩
  · exact ⟨a, c, rfl⟩
  · exact ⟨_, c, rfl⟩

set_option maxHeartbeats 4000000 in
theorem boardSets_walk (n : Nat → Int) (a1 : Int) (a2 : Int) (a3 : Int) (w0 : PosOk n) (_w1 : (Lit.int .i64 a1).wf = true) (_w2 : (Lit.int .u8 a2).wf = true) (_w3 : (Lit.int .u8 a3).wf = true) (w : World) (hT : Tab w) :
    Calls Tryd.prog 3 #[.agg (posA n), .int .i64 a1, .int .u8 a2, .int .u8 a3] w fun e w' => e = .returned (.bool true) ∧ Below w.heap.size w w' := by
  obtain ⟨X, hX⟩ : ∃ X, w.alloc (.cells (posA n) 31) = X := ⟨_, rfl⟩
  obtain ⟨p0, hb⟩ := box1 w n X hX
  have HX := hideIt hX
  obtain ⟨i0, r0⟩ := p0.rules
  clear hX
  go_enter Tryd.func3, Tryd.ntmps3
  go_wp2_with (rw [HX.out])
  refine (rof2_any n a2 a3 _).mono ?_
  rintro e Y ⟨rfl, h1⟩
  have p0 := p0.below h1 p0.lt
  have hb := hb.trans (h1.mono hb.size)
  have hTY := hideIt (hT.below hb (Nat.le_refl _))
  have HC := hideIt (show (listB (ofN n a2 a3)).length = cntB (ofN n a2 a3) from rfl)
  clear h1 i0 r0 HX hT
  go_wp2
  go_region_held3 (fun W => (IsPos W w.heap.size ∧ rowOf W w.heap.size = posA n) ∧ Below Y.heap.size Y W) ((refine keepP p0 ?_; repeat (first | exact Below.refl _ _ | assumption | refine bl_drew ?_ | refine bl_new ?_ (Nat.le_refl _) | refine bl_then ?_ (by assumption)))) ((first | (go_at_call 10; refine (at_any _ w0 _ _).mono ?_; rintro e w31 ⟨rfl, h1⟩) | (go_at_call 11; refine (rat_any _ _ _).mono ?_; rintro e w31 ⟨rfl, h1⟩) | (go_at_call 12; refine (of_any _ w0 _ _ _).mono ?_; rintro e w31 ⟨rfl, h1⟩) | (go_at_call 13; refine (ball_any _ w0 _).mono ?_; rintro e w31 ⟨rfl, h1⟩) | (go_at_call 14; refine (rball_any _ _).mono ?_; rintro e w31 ⟨rfl, h1⟩) | (go_at_call 15; refine (bfind_any _ w0 _ _ _ (hTY.out.below (And.right ‹(IsPos _ _ ∧ _) ∧ Below Y.heap.size Y _›) (Nat.le_refl _))).mono ?_; rintro e w31 ⟨rfl, h1⟩) | (go_at_call 16; refine (rbfind_any _ _ _ _).mono ?_; rintro e w31 ⟨rfl, h1⟩) | (go_at_call 17; refine (bcount_any _ w0 _ _ _).mono ?_; rintro e w31 ⟨rfl, h1⟩) | (go_at_call 18; refine (rlist_any (ofN n a2 a3) rfl _).mono ?_; rintro e w31 ⟨v, rfl, hown, h1⟩; obtain ⟨aa, cc, rfl⟩ := owns_len hown; clear hown; rw [HC.out])))
  all_goals
    have hq := And.right ‹(IsPos _ _ ∧ _) ∧ Below Y.heap.size Y _›
    go_wp2
    go_ret
    exact ⟨rfl, hb.trans (hq.mono hb.size)⟩

end Go.Proofs.YtlobmhhilkmfdaaDoor
