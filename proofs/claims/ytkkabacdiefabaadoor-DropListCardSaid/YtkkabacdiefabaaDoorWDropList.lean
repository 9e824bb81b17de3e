/- The walk of DropList (written by gen_dlist.py). -/
import Derived.Test.YtkkabacdiefabaaDoorD9
import Derived.Test.YtkkabacdiefabaaDoorAwD
namespace Go.Proofs.YtkkabacdiefabaaDoor
open Go Go.RowKit
set_option linter.unusedVariables false

set_option maxHeartbeats 4000000 in
theorem dropList_walk (n : Nat → Int) (w0 : PosOk n) (w : World) (hT : Tab w) :
    Calls Tryd.prog 3 #[.agg (posA n)] w fun e w' => e = .returned (.bool true) ∧ Below w.heap.size w w' := by
  obtain ⟨z0, z1⟩ := w0.u8 0 (by decide) rfl
  obtain ⟨y0, y1⟩ := w0.u8 78 (by decide) rfl
  obtain ⟨v, hv⟩ : ∃ v : Nat, n 0 = v := ⟨(n 0).toNat, by omega⟩
  obtain ⟨t, ht⟩ : ∃ t : Nat, n 78 = t := ⟨(n 78).toNat, by omega⟩
  have G1 : Hid (∀ W, Tab W → Calls Tryd.prog 10 #[.agg (posA n)] W fun e w' => ∃ x, e = .returned x ∧ OwnsM w' W.heap.size x (dropL n v t) ∧ Below W.heap.size W w') := fun W hW => dl_any n w0 v t hv ht (by omega) W hW
  have G2 : Hid (∀ W, Calls Tryd.prog 11 #[.agg (posA n)] W fun e w' => ∃ x, e = .returned x ∧ OwnsM w' W.heap.size x (dropL n v t) ∧ Below W.heap.size W w') := fun W => rdl_any n w0 v t hv ht (by omega) W
  have HOK := hideIt (dropL_ok n v t)
  have hll := dropL_len n v t
  generalize dropL n v t = L at G1 G2 HOK hll
  clear hv ht z0 z1 y0 y1
  obtain ⟨X, hX⟩ : ∃ X, w.alloc (.cells (posA n) 31) = X := ⟨_, rfl⟩
  obtain ⟨p0, hb⟩ := box1 w n X hX
  have HX := hideIt hX
  have HTX := hideIt (hT.below hb (Nat.le_refl _))
  have HP := hideIt p0
  clear hX hT p0
  go_enter Tryd.func3, Tryd.ntmps3
  go_wp2_with (rw [HX.out])
  refine wp_region_held_drew (S := (fun W => (IsPos W w.heap.size ∧ rowOf W w.heap.size = posA n) ∧ Tab W ∧ Below X.heap.size X W)) (by kernel_rfl) ?_ (fun hHeld => ?_)
  · (try dsimp only); (refine keepD HP.out HTX.out ?_; repeat (first | exact Below.refl _ _ | assumption | refine bl_drew ?_ | refine bl_then ?_ (by assumption)))
  refine wpAnyH_take (i := 0) (oi := { dst := some 3, op := Op.load 31 (Operand.tmp 1), type := 31, pos := "law.go:13", after := #[], guard := none }) (v := ?_) rfl (by kernel_rfl) (by kernel_rfl) (by kernel_rfl) (fun _ _ _ h => h) (Or.inl ⟨by rfl, ?_⟩) (by assumption) ?_
  rotate_left
  · (intro w hSw; (try dsimp only at hSw); go_simp; try (with_reducible rfl))
  try simp only [Act.put, List.setIfInBounds_toArray, List.set_cons_zero, List.set_cons_succ]
  refine wpAnyH_take (i := 2) (oi := { dst := some 5, op := Op.load 31 (Operand.tmp 1), type := 31, pos := "law.go:13", after := #[], guard := none }) (v := ?_) rfl (by kernel_rfl) (by kernel_rfl) (by kernel_rfl) (fun _ _ _ h => h) (Or.inl ⟨by rfl, ?_⟩) (by assumption) ?_
  rotate_left
  · (intro w hSw; (try dsimp only at hSw); go_simp; try (with_reducible rfl))
  try simp only [Act.put, List.setIfInBounds_toArray, List.set_cons_zero, List.set_cons_succ]
  refine wpAnyH_ready (rs := [1]) (by kernel_rfl) (by simp) ?_
  refine AllReadyH.cons (o := { dst := some 4, op := Op.call { callee := Callee.value (Operand.func 10), args := #[Operand.tmp 3], argTypes := #[31] }, type := 33, pos := "law.go:13", after := #[{ on := 0, ground := Ground.data }], guard := none }) rfl (fun K hK => ?_) AllReadyH.nil
  go_simp
  refine (G1.out _ hHeld.2.1).mono ?_
  rintro e w5 ⟨v1, rfl, own1, h1⟩
  refine hK.out _ _ ?_ (fun hHeld => ?_)
  · (try dsimp only); (refine keepD HP.out HTX.out ?_; repeat (first | exact Below.refl _ _ | assumption | refine bl_drew ?_ | refine bl_then ?_ (by assumption)))
  clear hK K
  try simp only [Act.put, List.setIfInBounds_toArray, List.set_cons_zero, List.set_cons_succ]
  refine wpAnyH_ready (rs := [3]) (by kernel_rfl) (by simp) ?_
  refine AllReadyH.cons (o := { dst := some 6, op := Op.call { callee := Callee.value (Operand.func 11), args := #[Operand.tmp 5], argTypes := #[31] }, type := 33, pos := "law.go:13", after := #[{ on := 2, ground := Ground.data }, { on := 1, ground := Ground.chain }], guard := none }) rfl (fun K hK => ?_) AllReadyH.nil
  go_simp
  refine (G2.out _).mono ?_
  rintro e w6 ⟨v2, rfl, own2, h2⟩
  have own1 := own1.kept h2 (Nat.le_refl _)
  refine hK.out _ _ ?_ (fun hHeld => ?_)
  · (try dsimp only); (refine keepD HP.out HTX.out ?_; repeat (first | exact Below.refl _ _ | assumption | refine bl_drew ?_ | refine bl_then ?_ (by assumption)))
  clear hK K
  try simp only [Act.put, List.setIfInBounds_toArray, List.set_cons_zero, List.set_cons_succ]
  refine wpAnyH_ready (rs := [4]) (by kernel_rfl) (by simp) ?_
  refine AllReadyH.cons (o := { dst := some 7, op := Op.call { callee := Callee.value (Operand.func 9), args := #[Operand.tmp 4, Operand.tmp 6], argTypes := #[33, 33] }, type := 4, pos := "law.go:13", after := #[{ on := 1, ground := Ground.data }, { on := 3, ground := Ground.data }, { on := 3, ground := Ground.chain }], guard := none }) rfl (fun K hK => ?_) AllReadyH.nil
  go_simp
  refine (same_yes L HOK.out (by omega) _ _ _ _ _ own1 own2).mono ?_
  rintro e w7 ⟨rfl, h3⟩
  clear own1 own2
  refine hK.out _ _ ?_ (fun hHeld => ?_)
  · (try dsimp only); (refine keepD HP.out HTX.out ?_; repeat (first | exact Below.refl _ _ | assumption | refine bl_drew ?_ | refine bl_then ?_ (by assumption)))
  clear hK K
  try simp only [Act.put, List.setIfInBounds_toArray, List.set_cons_zero, List.set_cons_succ]
  refine wpAnyH_take (i := 5) (oi := { dst := some 8, op := Op.move (Operand.tmp 7), type := 4, pos := "law.go:13", after := #[{ on := 4, ground := Ground.data }, { on := 4, ground := Ground.chain }], guard := none }) (v := ?_) rfl (by kernel_rfl) (by kernel_rfl) (by kernel_rfl) (fun _ _ _ h => h) (Or.inl ⟨by rfl, ?_⟩) (by assumption) ?_
  rotate_left
  · (intro w hSw; (try dsimp only at hSw); go_simp; try (with_reducible rfl))
  try simp only [Act.put, List.setIfInBounds_toArray, List.set_cons_zero, List.set_cons_succ]
  refine wpAnyH_ready (rs := [6]) (by kernel_rfl) (by simp) ?_
  refine AllReadyH.cons (o := { dst := some 9, op := Op.call { callee := Callee.value (Operand.func 12), args := #[], argTypes := #[] }, type := 4, pos := "law.go:13", after := #[{ on := 5, ground := Ground.chain }, { on := 5, ground := Ground.guard }], guard := some (5, true) }) rfl (fun K hK => ?_) AllReadyH.nil
  go_simp
  refine (awakeD_any _ hHeld.2.1).mono ?_
  rintro e w8 ⟨rfl, h4⟩
  refine hK.out _ _ ?_ (fun hHeld => ?_)
  · (try dsimp only); (refine keepD HP.out HTX.out ?_; repeat (first | exact Below.refl _ _ | assumption | refine bl_drew ?_ | refine bl_then ?_ (by assumption)))
  clear hK K
  try simp only [Act.put, List.setIfInBounds_toArray, List.set_cons_zero, List.set_cons_succ]
  refine wpAnyH_take (i := 7) (oi := { dst := some 10, op := Op.pick (Operand.tmp 8) (Operand.tmp 9) (Operand.const (Value.bool false)), type := 4, pos := "law.go:13", after := #[{ on := 5, ground := Ground.data }, { on := 6, ground := Ground.data }], guard := none }) (v := ?_) rfl (by kernel_rfl) (by kernel_rfl) (by kernel_rfl) (fun _ _ _ h => h) (Or.inl ⟨by rfl, ?_⟩) (by assumption) ?_
  rotate_left
  · (intro w hSw; (try dsimp only at hSw); go_simp; try (with_reducible rfl))
  try simp only [Act.put, List.setIfInBounds_toArray, List.set_cons_zero, List.set_cons_succ]
  refine wpAnyH_take (i := 8) (oi := { dst := some 2, op := Op.assign (Operand.tmp 10), type := 4, pos := "law.go:13", after := #[{ on := 7, ground := Ground.data }, { on := 6, ground := Ground.chain }, { on := 0, ground := Ground.phase }, { on := 1, ground := Ground.phase }, { on := 2, ground := Ground.phase }, { on := 3, ground := Ground.phase }, { on := 4, ground := Ground.phase }, { on := 5, ground := Ground.phase }, { on := 6, ground := Ground.phase }, { on := 7, ground := Ground.phase }], guard := none }) (v := ?_) rfl (by kernel_rfl) (by kernel_rfl) (by kernel_rfl) (fun _ _ _ h => h) (Or.inl ⟨by rfl, ?_⟩) (by assumption) ?_
  rotate_left
  · (intro w hSw; (try dsimp only at hSw); go_simp; try (with_reducible rfl))
  try simp only [Act.put, List.setIfInBounds_toArray, List.set_cons_zero, List.set_cons_succ]
  refine wpAnyH_done (by kernel_rfl) ?_ _
  have hq := hHeld.2.2
  go_wp2
  go_ret
  exact ⟨rfl, hb.trans (hq.mono hb.size)⟩

end Go.Proofs.YtkkabacdiefabaaDoor
