/- A case of BoardPut. -/
import Derived.Test.YtlobmhhilkmfdaaDoorWBP1
namespace Go.Proofs.YtlobmhhilkmfdaaDoor
open Go Go.RowKit

set_option maxRecDepth 100000 in
set_option maxHeartbeats 8000000 in
theorem boardPut_c (n : Nat → Int) (a1 a2 a3 : Int) (w0 : PosOk n) (x0 : 0 ≤ a3) (x1 : a3 ≤ 255) (s0 : 0 ≤ a1) (s1 : a1 ≤ 63) (ho : a2 ≠ a1) (h3 : a3 = 0) (hz : a3 = 0 ∨ isB a3 = true) (w : World) (hT : Tab w) :
    Calls Tryd.prog 7 #[.agg (posA n), .int .i64 a1, .int .i64 a2, .int .u8 a3] w fun e w' => e = .returned (.bool true) ∧ Below w.heap.size w w' := by
  obtain ⟨m, hm⟩ : ∃ m, upd n (1 + a1.toNat) a3 = m := ⟨_, rfl⟩
  have mOk : PosOk m := by rw [← hm]; exact w0.upd (by rw [kind_board (by omega)]; exact wf_u8_mk x0 x1)
  have E := hideIt ((put_eq n a1 a3 s0 (by omega) hz).trans hm)
  have A1 : atN m a1 = a3 := by rw [← hm]; exact at_upd n a1 a3 s0 (by omega) hz
  have hzi : a3 ≠ 0 → isB a3 = true := by
    intro hne
    rcases hz with h | h
    · exact absurd h hne
    · exact h
  have HZ := hideIt hzi
  have hpi : a3 ≠ 0 → hasB (ofN m (colI a3) (kndI a3)) a1 = true := by
    intro hne
    rw [has_of, A1]; exact want_put (hzi hne)
  have HP := hideIt hpi
  clear hzi hpi
  have BK : Hid (upd (putN m a1 (atN n a1)) (1 + a1.toNat) (n (1 + a1.toNat)) = n) := by rw [← hm]; exact put_back n a1 a3 s0 (by omega)
  have A2 := hideIt (fun hne : a2 ≠ a1 => (show atN m a2 = atN n a2 by rw [← hm]; exact at_other n a1 a2 a3 s0 hne))
  have E1 := eqP_self n
  have AB := at_bd w0 a1
  obtain ⟨y0, y1⟩ := AB
  obtain ⟨X, hX⟩ : ∃ X, w.alloc (.cells (posA n) 31) = X := ⟨_, rfl⟩
  obtain ⟨p0, hb⟩ := box1 w n X hX
  have HX := hideIt hX
  have hT := hT.below hb (Nat.le_refl _)
  have hzp := zeroPos
  clear hX hm hz
  have zp : (a2 == a1) = false := beq_eq_false_iff_ne.2 ho
  have zo : (a2 != a1) = true := by rw [bne, zp]; rfl
  have A2 := A2.out ho
  clear ho
  have z3 : (a3 != 0) = false := by rw [h3]; rfl
  have z4 : (a3 == 0) = true := by rw [h3]; rfl
  clear h3
  go_enter Tryd.func7, Tryd.ntmps7
  go_wp2_with (first | rw [HX.out])
  refine (awake_any _ hT).mono ?_
  rintro e w1 ⟨rfl, h1⟩
  have p0 := p0.below h1 p0.lt
  have hb := hb.trans (h1.mono hb.size)
  clear h1 hT
  obtain ⟨i0, r0⟩ := p0.rules
  go_wp2_with fail
  refine (bput_any n a1 a3 x0 x1 _).mono ?_
  rw [E.out]
  rintro e Z ⟨rfl, h1⟩
  have p0 := p0.below h1 p0.lt
  have hb := hb.trans (h1.mono hb.size)
  clear h1 i0 r0
  obtain ⟨V, hV⟩ : ∃ V, (Z.alloc (.cells (posA zeroN) 31)).setRow Z.heap.size (posA m) = V := ⟨_, rfl⟩
  have hV2 : Z.alloc (.cells (posA m) 31) = V := by rw [← hV, World.setRow_alloc_new]
  have pa : PosAt V w.heap.size n := by rw [← hV2]; exact p0.alloc _
  obtain ⟨q, hq⟩ : ∃ q, Z.heap.size = q := ⟨_, rfl⟩
  have pq : PosAt V q m := by rw [← hV2, ← hq]; exact PosAt.new Z m
  have hb : Below w.heap.size w V := by rw [← hV2]; exact hb.alloc hb.size _
  have HV := hideIt hV
  have HQ := hideIt hq
  clear hV hV2 hq p0
  go_wp2_with (first | rw [HV.out, HQ.out])
  go_cut [68] (fun s68 wx => s68 = .bool false ∧ Below V.heap.size V wx)
  case first =>
    refine wp_region_held_drew (S := (fun W => (IsPos W w.heap.size ∧ rowOf W w.heap.size = posA n) ∧ (IsPos W q ∧ rowOf W q = posA m) ∧ Below V.heap.size V W)) (by kernel_rfl) ?_ (fun hHeld => ?_)
    · (try dsimp only); (refine keep2 pa pq ?_; repeat (first | exact Below.refl _ _ | assumption | refine bl_drew ?_ | refine bl_new ?_ (Nat.le_refl _) | refine bl_then ?_ (by assumption)))
    refine wpAnyH_take (i := 0) (oi := { dst := some 35, op := Op.load 31 (Operand.tmp 9), type := 31, pos := "outright.go:71", after := #[], guard := none }) (v := ?_) rfl (by kernel_rfl) (by kernel_rfl) (by kernel_rfl) (fun _ _ _ h => h) (Or.inl ⟨by rfl, ?_⟩) (by assumption) ?_
    rotate_left
    · (intro w hSw; (try dsimp only at hSw); go_simp; try (with_reducible rfl))
    try simp only [Act.put, List.setIfInBounds_toArray, List.set_cons_zero, List.set_cons_succ]
    refine wpAnyH_take (i := 1) (oi := { dst := some 36, op := Op.move (Operand.tmp 1), type := 3, pos := "outright.go:71", after := #[], guard := none }) (v := ?_) rfl (by kernel_rfl) (by kernel_rfl) (by kernel_rfl) (fun _ _ _ h => h) (Or.inl ⟨by rfl, ?_⟩) (by assumption) ?_
    rotate_left
    · (intro w hSw; (try dsimp only at hSw); go_simp; try (with_reducible rfl))
    try simp only [Act.put, List.setIfInBounds_toArray, List.set_cons_zero, List.set_cons_succ]
    refine wpAnyH_take (i := 3) (oi := { dst := some 38, op := Op.move (Operand.tmp 3), type := 5, pos := "outright.go:71", after := #[], guard := none }) (v := ?_) rfl (by kernel_rfl) (by kernel_rfl) (by kernel_rfl) (fun _ _ _ h => h) (Or.inl ⟨by rfl, ?_⟩) (by assumption) ?_
    rotate_left
    · (intro w hSw; (try dsimp only at hSw); go_simp; try (with_reducible rfl))
    try simp only [Act.put, List.setIfInBounds_toArray, List.set_cons_zero, List.set_cons_succ]
    refine wpAnyH_ready (rs := [2]) (by kernel_rfl) (by simp) ?_
    refine AllReadyH.cons (o := { dst := some 37, op := Op.call { callee := Callee.value (Operand.func 10), args := #[Operand.tmp 35, Operand.tmp 36], argTypes := #[31, 3] }, type := 5, pos := "outright.go:71", after := #[{ on := 0, ground := Ground.data }, { on := 1, ground := Ground.data }], guard := none }) rfl (fun K hK => ?_) AllReadyH.nil
    go_simp
    refine (at_any m mOk _ _).mono ?_
    rintro e w31 ⟨rfl, h1⟩
    refine hK.out _ _ ?_ (fun hHeld => ?_)
    · (try dsimp only); (refine keep2 pa pq ?_; repeat (first | exact Below.refl _ _ | assumption | refine bl_drew ?_ | refine bl_new ?_ (Nat.le_refl _) | refine bl_then ?_ (by assumption)))
    clear hK K
    try simp only [Act.put, List.setIfInBounds_toArray, List.set_cons_zero, List.set_cons_succ]
    refine wpAnyH_take (i := 4) (oi := { dst := some 39, op := Op.binOp BinOp.neq 5 (Operand.tmp 37) (Operand.tmp 38) 5, type := 4, pos := "outright.go:71", after := #[{ on := 2, ground := Ground.data }, { on := 3, ground := Ground.data }], guard := none }) (v := ?_) rfl (by kernel_rfl) (by kernel_rfl) (by kernel_rfl) (fun _ _ _ h => h) (Or.inl ⟨by rfl, ?_⟩) (by assumption) ?_
    rotate_left
    · (intro w hSw; (try dsimp only at hSw); go_simp; try (with_reducible rfl))
    try simp only [Act.put, List.setIfInBounds_toArray, List.set_cons_zero, List.set_cons_succ]
    refine wpAnyH_take (i := 5) (oi := { dst := some 40, op := Op.move (Operand.tmp 39), type := 4, pos := "outright.go:71", after := #[{ on := 4, ground := Ground.data }, { on := 2, ground := Ground.chain }], guard := none }) (v := ?_) rfl (by kernel_rfl) (by kernel_rfl) (by kernel_rfl) (fun _ _ _ h => h) (Or.inl ⟨by rfl, ?_⟩) (by assumption) ?_
    rotate_left
    · (intro w hSw; (try dsimp only at hSw); go_simp; try (with_reducible rfl))
    try simp only [Act.put, List.setIfInBounds_toArray, List.set_cons_zero, List.set_cons_succ]
    refine wpAnyH_take (i := 6) (oi := { dst := some 41, op := Op.move (Operand.tmp 2), type := 3, pos := "outright.go:71", after := #[{ on := 5, ground := Ground.guard }], guard := some (5, false) }) (v := ?_) rfl (by kernel_rfl) (by kernel_rfl) (by kernel_rfl) (fun _ _ _ h => h) (Or.inl ⟨by rfl, ?_⟩) (by assumption) ?_
    rotate_left
    · (intro w hSw; (try dsimp only at hSw); go_simp; try (with_reducible rfl))
    try simp only [Act.put, List.setIfInBounds_toArray, List.set_cons_zero, List.set_cons_succ]
    refine wpAnyH_take (i := 7) (oi := { dst := some 42, op := Op.move (Operand.tmp 1), type := 3, pos := "outright.go:71", after := #[{ on := 5, ground := Ground.guard }], guard := some (5, false) }) (v := ?_) rfl (by kernel_rfl) (by kernel_rfl) (by kernel_rfl) (fun _ _ _ h => h) (Or.inl ⟨by rfl, ?_⟩) (by assumption) ?_
    rotate_left
    · (intro w hSw; (try dsimp only at hSw); go_simp; try (with_reducible rfl))
    try simp only [Act.put, List.setIfInBounds_toArray, List.set_cons_zero, List.set_cons_succ]
    refine wpAnyH_take (i := 8) (oi := { dst := some 43, op := Op.binOp BinOp.neq 3 (Operand.tmp 41) (Operand.tmp 42) 3, type := 4, pos := "outright.go:71", after := #[{ on := 6, ground := Ground.data }, { on := 7, ground := Ground.data }, { on := 5, ground := Ground.guard }], guard := some (5, false) }) (v := ?_) rfl (by kernel_rfl) (by kernel_rfl) (by kernel_rfl) (fun _ _ _ h => h) (Or.inl ⟨by rfl, ?_⟩) (by assumption) ?_
    rotate_left
    · (intro w hSw; (try dsimp only at hSw); go_simp; try (with_reducible rfl))
    try simp only [Act.put, List.setIfInBounds_toArray, List.set_cons_zero, List.set_cons_succ]
    refine wpAnyH_take (i := 9) (oi := { dst := some 44, op := Op.move (Operand.tmp 43), type := 4, pos := "outright.go:71", after := #[{ on := 8, ground := Ground.data }, { on := 5, ground := Ground.chain }, { on := 5, ground := Ground.guard }], guard := some (5, false) }) (v := ?_) rfl (by kernel_rfl) (by kernel_rfl) (by kernel_rfl) (fun _ _ _ h => h) (Or.inl ⟨by rfl, ?_⟩) (by assumption) ?_
    rotate_left
    · (intro w hSw; (try dsimp only at hSw); go_simp; try (with_reducible rfl))
    try simp only [Act.put, List.setIfInBounds_toArray, List.set_cons_zero, List.set_cons_succ]
    refine wpAnyH_take (i := 10) (oi := { dst := some 45, op := Op.load 31 (Operand.tmp 9), type := 31, pos := "outright.go:71", after := #[{ on := 9, ground := Ground.guard }], guard := some (9, true) }) (v := ?_) rfl (by kernel_rfl) (by kernel_rfl) (by kernel_rfl) (fun _ _ _ h => h) (Or.inl ⟨by rfl, ?_⟩) (by assumption) ?_
    rotate_left
    · (intro w hSw; (try dsimp only at hSw); go_simp; try (with_reducible rfl))
    try simp only [Act.put, List.setIfInBounds_toArray, List.set_cons_zero, List.set_cons_succ]
    refine wpAnyH_take (i := 11) (oi := { dst := some 46, op := Op.move (Operand.tmp 2), type := 3, pos := "outright.go:71", after := #[{ on := 9, ground := Ground.guard }], guard := some (9, true) }) (v := ?_) rfl (by kernel_rfl) (by kernel_rfl) (by kernel_rfl) (fun _ _ _ h => h) (Or.inl ⟨by rfl, ?_⟩) (by assumption) ?_
    rotate_left
    · (intro w hSw; (try dsimp only at hSw); go_simp; try (with_reducible rfl))
    try simp only [Act.put, List.setIfInBounds_toArray, List.set_cons_zero, List.set_cons_succ]
    refine wpAnyH_take (i := 13) (oi := { dst := some 48, op := Op.load 31 (Operand.tmp 4), type := 31, pos := "outright.go:71", after := #[{ on := 9, ground := Ground.guard }], guard := some (9, true) }) (v := ?_) rfl (by kernel_rfl) (by kernel_rfl) (by kernel_rfl) (fun _ _ _ h => h) (Or.inl ⟨by rfl, ?_⟩) (by assumption) ?_
    rotate_left
    · (intro w hSw; (try dsimp only at hSw); go_simp; try (with_reducible rfl))
    try simp only [Act.put, List.setIfInBounds_toArray, List.set_cons_zero, List.set_cons_succ]
    refine wpAnyH_take (i := 14) (oi := { dst := some 49, op := Op.move (Operand.tmp 2), type := 3, pos := "outright.go:71", after := #[{ on := 9, ground := Ground.guard }], guard := some (9, true) }) (v := ?_) rfl (by kernel_rfl) (by kernel_rfl) (by kernel_rfl) (fun _ _ _ h => h) (Or.inl ⟨by rfl, ?_⟩) (by assumption) ?_
    rotate_left
    · (intro w hSw; (try dsimp only at hSw); go_simp; try (with_reducible rfl))
    try simp only [Act.put, List.setIfInBounds_toArray, List.set_cons_zero, List.set_cons_succ]
    refine wpAnyH_ready (rs := [12]) (by kernel_rfl) (by simp) ?_
    refine AllReadyH.cons (o := { dst := some 47, op := Op.call { callee := Callee.value (Operand.func 10), args := #[Operand.tmp 45, Operand.tmp 46], argTypes := #[31, 3] }, type := 5, pos := "outright.go:71", after := #[{ on := 10, ground := Ground.data }, { on := 11, ground := Ground.data }, { on := 9, ground := Ground.chain }, { on := 9, ground := Ground.guard }], guard := some (9, true) }) rfl (fun K hK => ?_) AllReadyH.nil
    go_simp
    refine (at_any m mOk _ _).mono ?_
    rintro e w31 ⟨rfl, h1⟩
    refine hK.out _ _ ?_ (fun hHeld => ?_)
    · (try dsimp only); (refine keep2 pa pq ?_; repeat (first | exact Below.refl _ _ | assumption | refine bl_drew ?_ | refine bl_new ?_ (Nat.le_refl _) | refine bl_then ?_ (by assumption)))
    clear hK K
    try simp only [Act.put, List.setIfInBounds_toArray, List.set_cons_zero, List.set_cons_succ]
    refine wpAnyH_ready (rs := [15]) (by kernel_rfl) (by simp) ?_
    refine AllReadyH.cons (o := { dst := some 50, op := Op.call { callee := Callee.value (Operand.func 10), args := #[Operand.tmp 48, Operand.tmp 49], argTypes := #[31, 3] }, type := 5, pos := "outright.go:71", after := #[{ on := 13, ground := Ground.data }, { on := 14, ground := Ground.data }, { on := 12, ground := Ground.chain }, { on := 9, ground := Ground.guard }], guard := some (9, true) }) rfl (fun K hK => ?_) AllReadyH.nil
    go_simp
    refine (at_any n w0 _ _).mono ?_
    rintro e w31 ⟨rfl, h1⟩
    refine hK.out _ _ ?_ (fun hHeld => ?_)
    · (try dsimp only); (refine keep2 pa pq ?_; repeat (first | exact Below.refl _ _ | assumption | refine bl_drew ?_ | refine bl_new ?_ (Nat.le_refl _) | refine bl_then ?_ (by assumption)))
    clear hK K
    try simp only [Act.put, List.setIfInBounds_toArray, List.set_cons_zero, List.set_cons_succ]
    refine wpAnyH_take (i := 16) (oi := { dst := some 51, op := Op.binOp BinOp.neq 5 (Operand.tmp 47) (Operand.tmp 50) 5, type := 4, pos := "outright.go:71", after := #[{ on := 12, ground := Ground.data }, { on := 15, ground := Ground.data }, { on := 9, ground := Ground.guard }], guard := some (9, true) }) (v := ?_) rfl (by kernel_rfl) (by kernel_rfl) (by kernel_rfl) (fun _ _ _ h => h) (Or.inl ⟨by rfl, ?_⟩) (by assumption) ?_
    rotate_left
    · (intro w hSw; (try dsimp only at hSw); go_simp; try (with_reducible rfl))
    try simp only [Act.put, List.setIfInBounds_toArray, List.set_cons_zero, List.set_cons_succ]
    refine wpAnyH_take (i := 17) (oi := { dst := some 52, op := Op.pick (Operand.tmp 44) (Operand.tmp 51) (Operand.const (Value.bool false)), type := 4, pos := "outright.go:71", after := #[{ on := 9, ground := Ground.data }, { on := 16, ground := Ground.data }, { on := 5, ground := Ground.guard }], guard := some (5, false) }) (v := ?_) rfl (by kernel_rfl) (by kernel_rfl) (by kernel_rfl) (fun _ _ _ h => h) (Or.inl ⟨by rfl, ?_⟩) (by assumption) ?_
    rotate_left
    · (intro w hSw; (try dsimp only at hSw); go_simp; try (with_reducible rfl))
    try simp only [Act.put, List.setIfInBounds_toArray, List.set_cons_zero, List.set_cons_succ]
    refine wpAnyH_take (i := 18) (oi := { dst := some 53, op := Op.pick (Operand.tmp 40) (Operand.const (Value.bool true)) (Operand.tmp 52), type := 4, pos := "outright.go:71", after := #[{ on := 5, ground := Ground.data }, { on := 17, ground := Ground.data }], guard := none }) (v := ?_) rfl (by kernel_rfl) (by kernel_rfl) (by kernel_rfl) (fun _ _ _ h => h) (Or.inl ⟨by rfl, ?_⟩) (by assumption) ?_
    rotate_left
    · (intro w hSw; (try dsimp only at hSw); go_simp; try (with_reducible rfl))
    try simp only [Act.put, List.setIfInBounds_toArray, List.set_cons_zero, List.set_cons_succ]
    refine wpAnyH_take (i := 19) (oi := { dst := some 54, op := Op.move (Operand.tmp 53), type := 4, pos := "outright.go:71", after := #[{ on := 18, ground := Ground.data }, { on := 15, ground := Ground.chain }], guard := none }) (v := ?_) rfl (by kernel_rfl) (by kernel_rfl) (by kernel_rfl) (fun _ _ _ h => h) (Or.inl ⟨by rfl, ?_⟩) (by assumption) ?_
    rotate_left
    · (intro w hSw; (try dsimp only at hSw); go_simp; try (with_reducible rfl))
    try simp only [Act.put, List.setIfInBounds_toArray, List.set_cons_zero, List.set_cons_succ]
    refine wpAnyH_take (i := 20) (oi := { dst := some 55, op := Op.move (Operand.tmp 3), type := 5, pos := "outright.go:71", after := #[{ on := 19, ground := Ground.guard }], guard := some (19, false) }) (v := ?_) rfl (by kernel_rfl) (by kernel_rfl) (by kernel_rfl) (fun _ _ _ h => h) (Or.inl ⟨by rfl, ?_⟩) (by assumption) ?_
    rotate_left
    · (intro w hSw; (try dsimp only at hSw); go_simp; try (with_reducible rfl))
    try simp only [Act.put, List.setIfInBounds_toArray, List.set_cons_zero, List.set_cons_succ]
    refine wpAnyH_take (i := 21) (oi := { dst := some 56, op := Op.binOp BinOp.neq 5 (Operand.tmp 55) (Operand.const (Value.int IntKind.u8 0)) 5, type := 4, pos := "outright.go:71", after := #[{ on := 20, ground := Ground.data }, { on := 19, ground := Ground.guard }], guard := some (19, false) }) (v := ?_) rfl (by kernel_rfl) (by kernel_rfl) (by kernel_rfl) (fun _ _ _ h => h) (Or.inl ⟨by rfl, ?_⟩) (by assumption) ?_
    rotate_left
    · (intro w hSw; (try dsimp only at hSw); go_simp; try (with_reducible rfl))
    try simp only [Act.put, List.setIfInBounds_toArray, List.set_cons_zero, List.set_cons_succ]
    refine wpAnyH_take (i := 22) (oi := { dst := some 57, op := Op.move (Operand.tmp 56), type := 4, pos := "outright.go:71", after := #[{ on := 21, ground := Ground.data }, { on := 19, ground := Ground.chain }, { on := 19, ground := Ground.guard }], guard := some (19, false) }) (v := ?_) rfl (by kernel_rfl) (by kernel_rfl) (by kernel_rfl) (fun _ _ _ h => h) (Or.inl ⟨by rfl, ?_⟩) (by assumption) ?_
    rotate_left
    · (intro w hSw; (try dsimp only at hSw); go_simp; try (with_reducible rfl))
    try simp only [Act.put, List.setIfInBounds_toArray, List.set_cons_zero, List.set_cons_succ]
    refine wpAnyH_take (i := 23) (oi := { dst := some 58, op := Op.load 31 (Operand.tmp 9), type := 31, pos := "outright.go:71", after := #[{ on := 22, ground := Ground.guard }], guard := some (22, true) }) (v := undef) rfl (by kernel_rfl) (by kernel_rfl) (by kernel_rfl) (fun _ _ _ h => h) (Or.inr ⟨by rfl, rfl⟩) (by assumption) ?_
    try simp only [Act.put, List.setIfInBounds_toArray, List.set_cons_zero, List.set_cons_succ]
    refine wpAnyH_take (i := 24) (oi := { dst := some 59, op := Op.move (Operand.tmp 3), type := 5, pos := "outright.go:71", after := #[{ on := 22, ground := Ground.guard }], guard := some (22, true) }) (v := undef) rfl (by kernel_rfl) (by kernel_rfl) (by kernel_rfl) (fun _ _ _ h => h) (Or.inr ⟨by rfl, rfl⟩) (by assumption) ?_
    try simp only [Act.put, List.setIfInBounds_toArray, List.set_cons_zero, List.set_cons_succ]
    refine wpAnyH_take (i := 25) (oi := { dst := some 60, op := Op.call { callee := Callee.value (Operand.func 25), args := #[Operand.tmp 59], argTypes := #[5] }, type := 5, pos := "outright.go:71", after := #[{ on := 24, ground := Ground.data }, { on := 22, ground := Ground.chain }, { on := 22, ground := Ground.guard }], guard := some (22, true) }) (v := undef) rfl (by kernel_rfl) (by kernel_rfl) (by kernel_rfl) (fun _ _ _ h => h) (Or.inr ⟨by rfl, rfl⟩) (by assumption) ?_
    try simp only [Act.put, List.setIfInBounds_toArray, List.set_cons_zero, List.set_cons_succ]
    refine wpAnyH_take (i := 26) (oi := { dst := some 61, op := Op.move (Operand.tmp 3), type := 5, pos := "outright.go:71", after := #[{ on := 22, ground := Ground.guard }], guard := some (22, true) }) (v := undef) rfl (by kernel_rfl) (by kernel_rfl) (by kernel_rfl) (fun _ _ _ h => h) (Or.inr ⟨by rfl, rfl⟩) (by assumption) ?_
    try simp only [Act.put, List.setIfInBounds_toArray, List.set_cons_zero, List.set_cons_succ]
    refine wpAnyH_take (i := 27) (oi := { dst := some 62, op := Op.call { callee := Callee.value (Operand.func 26), args := #[Operand.tmp 61], argTypes := #[5] }, type := 5, pos := "outright.go:71", after := #[{ on := 26, ground := Ground.data }, { on := 25, ground := Ground.chain }, { on := 22, ground := Ground.guard }], guard := some (22, true) }) (v := undef) rfl (by kernel_rfl) (by kernel_rfl) (by kernel_rfl) (fun _ _ _ h => h) (Or.inr ⟨by rfl, rfl⟩) (by assumption) ?_
    try simp only [Act.put, List.setIfInBounds_toArray, List.set_cons_zero, List.set_cons_succ]
    refine wpAnyH_take (i := 28) (oi := { dst := some 63, op := Op.call { callee := Callee.value (Operand.func 12), args := #[Operand.tmp 58, Operand.tmp 60, Operand.tmp 62], argTypes := #[31, 5, 5] }, type := 23, pos := "outright.go:71", after := #[{ on := 23, ground := Ground.data }, { on := 25, ground := Ground.data }, { on := 27, ground := Ground.data }, { on := 27, ground := Ground.chain }, { on := 22, ground := Ground.guard }], guard := some (22, true) }) (v := undef) rfl (by kernel_rfl) (by kernel_rfl) (by kernel_rfl) (fun _ _ _ h => h) (Or.inr ⟨by rfl, rfl⟩) (by assumption) ?_
    try simp only [Act.put, List.setIfInBounds_toArray, List.set_cons_zero, List.set_cons_succ]
    refine wpAnyH_take (i := 29) (oi := { dst := some 64, op := Op.move (Operand.tmp 1), type := 3, pos := "outright.go:71", after := #[{ on := 22, ground := Ground.guard }], guard := some (22, true) }) (v := undef) rfl (by kernel_rfl) (by kernel_rfl) (by kernel_rfl) (fun _ _ _ h => h) (Or.inr ⟨by rfl, rfl⟩) (by assumption) ?_
    try simp only [Act.put, List.setIfInBounds_toArray, List.set_cons_zero, List.set_cons_succ]
    refine wpAnyH_take (i := 30) (oi := { dst := some 65, op := Op.call { callee := Callee.value (Operand.func 27), args := #[Operand.tmp 63, Operand.tmp 64], argTypes := #[23, 3] }, type := 4, pos := "outright.go:71", after := #[{ on := 28, ground := Ground.data }, { on := 29, ground := Ground.data }, { on := 28, ground := Ground.chain }, { on := 22, ground := Ground.guard }], guard := some (22, true) }) (v := undef) rfl (by kernel_rfl) (by kernel_rfl) (by kernel_rfl) (fun _ _ _ h => h) (Or.inr ⟨by rfl, rfl⟩) (by assumption) ?_
    try simp only [Act.put, List.setIfInBounds_toArray, List.set_cons_zero, List.set_cons_succ]
    refine wpAnyH_take (i := 31) (oi := { dst := some 66, op := Op.unOp UnOp.not 4 (Operand.tmp 65), type := 4, pos := "outright.go:71", after := #[{ on := 30, ground := Ground.data }, { on := 22, ground := Ground.guard }], guard := some (22, true) }) (v := undef) rfl (by kernel_rfl) (by kernel_rfl) (by kernel_rfl) (fun _ _ _ h => h) (Or.inr ⟨by rfl, rfl⟩) (by assumption) ?_
    try simp only [Act.put, List.setIfInBounds_toArray, List.set_cons_zero, List.set_cons_succ]
    refine wpAnyH_take (i := 32) (oi := { dst := some 67, op := Op.pick (Operand.tmp 57) (Operand.tmp 66) (Operand.const (Value.bool false)), type := 4, pos := "outright.go:71", after := #[{ on := 22, ground := Ground.data }, { on := 31, ground := Ground.data }, { on := 19, ground := Ground.guard }], guard := some (19, false) }) (v := ?_) rfl (by kernel_rfl) (by kernel_rfl) (by kernel_rfl) (fun _ _ _ h => h) (Or.inl ⟨by rfl, ?_⟩) (by assumption) ?_
    rotate_left
    · (intro w hSw; (try dsimp only at hSw); go_simp; try (with_reducible rfl))
    try simp only [Act.put, List.setIfInBounds_toArray, List.set_cons_zero, List.set_cons_succ]
    refine wpAnyH_take (i := 33) (oi := { dst := some 68, op := Op.pick (Operand.tmp 54) (Operand.const (Value.bool true)) (Operand.tmp 67), type := 4, pos := "outright.go:71", after := #[{ on := 19, ground := Ground.data }, { on := 32, ground := Ground.data }], guard := none }) (v := ?_) rfl (by kernel_rfl) (by kernel_rfl) (by kernel_rfl) (fun _ _ _ h => h) (Or.inl ⟨by rfl, ?_⟩) (by assumption) ?_
    rotate_left
    · (intro w hSw; (try dsimp only at hSw); go_simp; try (with_reducible rfl))
    try simp only [Act.put, List.setIfInBounds_toArray, List.set_cons_zero, List.set_cons_succ]
    refine wpAnyH_done (by kernel_rfl) ?_ _
    go_wp2_with fail
    go_meet
    exact ⟨rfl, by repeat (first | exact Below.refl _ _ | assumption | refine bl_drew ?_ | refine bl_then ?_ (by assumption))⟩
  case rest =>
    obtain ⟨rfl, hq⟩ := hcut
    have pa := pa.below hq pa.lt
    have pq := pq.below hq pq.lt
    have hb := hb.trans (hq.mono hb.size)
    clear hq
    go_upto_region 8 with fail
    go_cut [10] (fun s10 wx => ∃ g : Nat, s10 = .pointer (some { block := g, off := 0 }) ∧ PosAt wx g (putN m a1 (atN n a1)) ∧ PosAt wx w.heap.size n ∧ g ≠ w.heap.size ∧ w.heap.size ≤ g ∧ Below w.heap.size w wx)
    case first =>
      have la := pa.lt
      go_region_held3 (fun W => (IsPos W w.heap.size ∧ rowOf W w.heap.size = posA n) ∧ (IsPos W q ∧ rowOf W q = posA m) ∧ Below wc.heap.size wc W) ((refine keep2 pa pq ?_; repeat (first | exact Below.refl _ _ | assumption | refine bl_drew ?_ | refine bl_new ?_ (Nat.le_refl _) | refine bl_then ?_ (by assumption) | refine bl_r1 ?_ | refine bl_r2 ?_ | refine bl_r4 ?_ ?_))) ((first | (go_at_call 10; ((with_reducible refine (at_new n w0 _ _).mono ?_); rintro e w41 ⟨rfl, h1, hpn⟩; obtain ⟨_, _⟩ := hpn.rules)) | (go_at_call 10; refine (at_any n w0 _ _).mono ?_; rintro e w41 ⟨rfl, h1⟩) | (go_at_call 28; ((with_reducible refine (put_new m a1 (atN n a1) y0 y1 _).mono ?_); rintro e w51 ⟨rfl, h2, hpn⟩; obtain ⟨_, _⟩ := hpn.rules)) | (go_at_call 28; refine (bput_any m a1 (atN n a1) y0 y1 _).mono ?_; rintro e w51 ⟨rfl, h2⟩; try (have hpn := hpn.below h2 hpn.lt; obtain ⟨_, _⟩ := hpn.rules))))
      all_goals
        have hq := And.right (And.right ‹(IsPos _ _ ∧ _) ∧ (IsPos _ _ ∧ _) ∧ Below wc.heap.size wc _›)
        go_wp2_with fail
        go_meet
        refine ⟨_, rfl, ?_, pa.below hq pa.lt, ?_, ?_, hb.trans (hq.mono hb.size)⟩
        · first | exact (PosAt.new _ zeroN).setRow _ | exact PosAt.setRow (by assumption) _
        · first | exact Nat.ne_of_gt la | exact Nat.ne_of_gt (Nat.lt_of_lt_of_le la h1.size) | exact Nat.ne_of_gt (Nat.lt_of_lt_of_le la (Nat.le_trans h1.size h2.size))
        · first | exact Nat.le_of_lt la | exact Nat.le_of_lt (Nat.lt_of_lt_of_le la h1.size) | exact Nat.le_of_lt (Nat.lt_of_lt_of_le la (Nat.le_trans h1.size h2.size))
    case rest =>
      obtain ⟨g, rfl, pg, pn, hne, hle, hbel⟩ := hcut
      have cn := pn.board (1 + a1.toNat) (by omega)
      have cg := pg.board (1 + a1.toNat) (by omega)
      have fg := pg.free (1 + a1.toNat)
      have pg2 := pg.setB (1 + a1.toNat) (by omega) (n (1 + a1.toNat))
      rw [BK.out] at pg2
      have pn2 := pn.other (i := 1 + a1.toNat) hne (.int .u8 (n (1 + a1.toNat)))
      have hb2 := hbel.setCell (p := ⟨g, 1 + a1.toNat, none⟩) hle (.int .u8 (n (1 + a1.toNat)))
      obtain ⟨W2, hW2⟩ : ∃ W2, wc.setCell ⟨g, 1 + a1.toNat, none⟩ (.int .u8 (n (1 + a1.toNat))) = W2 := ⟨_, rfl⟩
      rw [hW2] at pg2 pn2 hb2
      obtain ⟨j1, k1⟩ := pg2.rules
      obtain ⟨j2, k2⟩ := pn2.rules
      have HW2 := hideIt hW2
      clear hW2 pa pq pg pn pg2 pn2
      go_wp2_with (rw [HW2.out])
      go_ret
      exact ⟨rfl, hb2⟩

end Go.Proofs.YtlobmhhilkmfdaaDoor
