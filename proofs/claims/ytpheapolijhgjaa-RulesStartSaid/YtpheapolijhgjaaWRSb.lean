/- RulesStart: the other variants. -/
import Derived.Test.YtpheapolijhgjaaWRS0
namespace Go.Proofs.Ytpheapolijhgjaa
open Go Go.RowKit
set_option linter.unusedVariables false

set_option maxRecDepth 100000 in
set_option maxHeartbeats 8000000 in
theorem rs_var_in (v : Nat) (hv : v ≤ 255) (n : Int) (hv9 : v < 9) (h1 : v ≠ 1) (m : Nat) (hnm : n = m) (hn : m < 960) (w : World) :
    Calls Try.prog 6 #[.int .u8 (v : Int), .int .i64 n] w fun e w' => e = .returned (.bool true) ∧ Below w.heap.size w w' := by
  have HV9 := hideIt (decide_eq_true hv9)
  have e9 : decide ((v : Int) < 9) = true := decide_eq_true (by omega)
  have e1 : ((v : Int) == 1) = false := beq_eq_false_iff_ne.2 (by omega)
  have e2 : ((v : Int) != 1) = true := by rw [bne, e1]; rfl
  clear h1
  subst hnm
  have d9 : decide ((m : Int) < 960) = true := decide_eq_true (by omega)
  obtain ⟨Q, hQ⟩ : ∃ Q, start960N m = Q := ⟨_, rfl⟩
  have OQ := ok960N m
  rw [hQ] at OQ
  have HQ := hideIt hQ
  clear hQ
  have hzp := zeroPos
  have OP := start_ok v
  obtain ⟨P, hP⟩ : ∃ P, startN v = P := ⟨_, rfl⟩
  rw [hP] at OP
  have HP := hideIt hP
  have EP := eqP_self P
  have EQ := eqP_self Q
  have EZ := eqP_self zeroN
  have OZ := zero_ok
  clear hP
  go_enter Try.func6, Try.ntmps6
  go_wp2_with fail
  refine (start_any v hv _).mono ?_
  rw [HP.out, HV9.out]
  rintro e Y ⟨rfl, hb⟩
  obtain ⟨V, hV⟩ : ∃ V, (Y.alloc (.cells (posA zeroN) 40)).setRow Y.heap.size (posA P) = V := ⟨_, rfl⟩
  have hV2 : Y.alloc (.cells (posA P) 40) = V := by rw [← hV, World.setRow_alloc_new]
  have p0 : PosAt V Y.heap.size P := by rw [← hV2]; exact PosAt.new Y _
  have hb : Below w.heap.size w V := by rw [← hV2]; exact hb.alloc hb.size _
  obtain ⟨g, hg⟩ : ∃ g, Y.heap.size = g := ⟨_, rfl⟩
  rw [hg] at p0
  have HV := hideIt hV
  have HG := hideIt hg
  clear hV hV2 hg
  go_wp2_with (rw [HV.out, HG.out])
  refine (start960_yes m hn _).mono ?_
  rw [HQ.out]
  rintro e Y2 ⟨rfl, h1⟩
  have p0 := p0.below h1 p0.lt
  have hb := hb.trans (h1.mono hb.size)
  clear h1
  obtain ⟨V2, hV⟩ : ∃ V, (Y2.alloc (.cells (posA zeroN) 40)).setRow Y2.heap.size (posA Q) = V := ⟨_, rfl⟩
  have hV2 : Y2.alloc (.cells (posA Q) 40) = V2 := by rw [← hV, World.setRow_alloc_new]
  have q0 : PosAt V2 Y2.heap.size Q := by rw [← hV2]; exact PosAt.new Y2 _
  have p0 : PosAt V2 g P := by rw [← hV2]; exact p0.alloc _
  have hb : Below w.heap.size w V2 := by rw [← hV2]; exact hb.alloc hb.size _
  obtain ⟨gq, hg⟩ : ∃ g, Y2.heap.size = g := ⟨_, rfl⟩
  rw [hg] at q0
  have HV := hideIt hV
  have HG := hideIt hg
  clear hV hV2 hg
  obtain ⟨i1, r1⟩ := p0.rules
  obtain ⟨i2, r2⟩ := q0.rules
  go_upto_region 5 with (rw [HV.out, HG.out])
  clear HV HG
  go_cut [61] (fun s61 wx => s61 = .bool false ∧ Below V2.heap.size V2 wx)
  case first =>
    obtain ⟨i3, r3⟩ : IsPos V2.drew g ∧ rowOf V2.drew g = _ := p0.rules
    obtain ⟨i4, r4⟩ : IsPos V2.drew gq ∧ rowOf V2.drew gq = _ := q0.rules
    refine wp_region_held_drew (S := (fun W => (IsPos W g ∧ rowOf W g = posA P) ∧ (IsPos W gq ∧ rowOf W gq = posA Q) ∧ Below V2.heap.size V2 W)) (by kernel_rfl) ?_ (fun hHeld => ?_)
    · (try dsimp only); (refine keepPQ p0 q0 ?_; repeat (first | exact Below.refl _ _ | assumption | refine bl_drew ?_ | refine bl_then ?_ (by assumption)))
    refine wpAnyH_take (i := 0) (oi := { dst := some 33, op := Op.move (Operand.tmp 0), type := 5, pos := "law.go:55", after := #[], guard := none }) (v := ?_) rfl (by kernel_rfl) (by kernel_rfl) (by kernel_rfl) (fun _ _ _ h => h) (Or.inl ⟨by rfl, ?_⟩) (by assumption) ?_
    rotate_left
    · (intro w hSw; (try dsimp only at hSw); go_simp; try (with_reducible rfl))
    try simp only [Act.put, List.setIfInBounds_toArray, List.set_cons_zero, List.set_cons_succ]
    refine wpAnyH_take (i := 1) (oi := { dst := some 34, op := Op.binOp BinOp.eql 5 (Operand.tmp 33) (Operand.const (Value.int IntKind.u8 1)) 5, type := 4, pos := "law.go:55", after := #[{ on := 0, ground := Ground.data }], guard := none }) (v := ?_) rfl (by kernel_rfl) (by kernel_rfl) (by kernel_rfl) (fun _ _ _ h => h) (Or.inl ⟨by rfl, ?_⟩) (by assumption) ?_
    rotate_left
    · (intro w hSw; (try dsimp only at hSw); go_simp; try (with_reducible rfl))
    try simp only [Act.put, List.setIfInBounds_toArray, List.set_cons_zero, List.set_cons_succ]
    refine wpAnyH_take (i := 2) (oi := { dst := some 35, op := Op.move (Operand.tmp 34), type := 4, pos := "law.go:55", after := #[{ on := 1, ground := Ground.data }], guard := none }) (v := ?_) rfl (by kernel_rfl) (by kernel_rfl) (by kernel_rfl) (fun _ _ _ h => h) (Or.inl ⟨by rfl, ?_⟩) (by assumption) ?_
    rotate_left
    · (intro w hSw; (try dsimp only at hSw); go_simp; try (with_reducible rfl))
    try simp only [Act.put, List.setIfInBounds_toArray, List.set_cons_zero, List.set_cons_succ]
    refine wpAnyH_take (i := 3) (oi := { dst := some 36, op := Op.load 40 (Operand.tmp 5), type := 40, pos := "law.go:55", after := #[{ on := 2, ground := Ground.guard }], guard := some (2, true) }) (v := undef) rfl (by kernel_rfl) (by kernel_rfl) (by kernel_rfl) (fun _ _ _ h => h) (Or.inr ⟨by rfl, rfl⟩) (by assumption) ?_
    try simp only [Act.put, List.setIfInBounds_toArray, List.set_cons_zero, List.set_cons_succ]
    refine wpAnyH_take (i := 4) (oi := { dst := some 37, op := Op.call { callee := Callee.value (Operand.func 25), args := #[Operand.const (Value.int IntKind.i64 518)], argTypes := #[3] }, type := 40, pos := "law.go:55", after := #[{ on := 2, ground := Ground.chain }, { on := 2, ground := Ground.guard }], guard := some (2, true) }) (v := undef) rfl (by kernel_rfl) (by kernel_rfl) (by kernel_rfl) (fun _ _ _ h => h) (Or.inr ⟨by rfl, rfl⟩) (by assumption) ?_
    try simp only [Act.put, List.setIfInBounds_toArray, List.set_cons_zero, List.set_cons_succ]
    refine wpAnyH_take (i := 5) (oi := { dst := some 38, op := Op.binOp BinOp.neq 40 (Operand.tmp 36) (Operand.tmp 37) 40, type := 4, pos := "law.go:55", after := #[{ on := 3, ground := Ground.data }, { on := 4, ground := Ground.data }, { on := 2, ground := Ground.guard }], guard := some (2, true) }) (v := undef) rfl (by kernel_rfl) (by kernel_rfl) (by kernel_rfl) (fun _ _ _ h => h) (Or.inr ⟨by rfl, rfl⟩) (by assumption) ?_
    try simp only [Act.put, List.setIfInBounds_toArray, List.set_cons_zero, List.set_cons_succ]
    refine wpAnyH_take (i := 6) (oi := { dst := some 39, op := Op.pick (Operand.tmp 35) (Operand.tmp 38) (Operand.const (Value.bool false)), type := 4, pos := "law.go:55", after := #[{ on := 2, ground := Ground.data }, { on := 5, ground := Ground.data }], guard := none }) (v := ?_) rfl (by kernel_rfl) (by kernel_rfl) (by kernel_rfl) (fun _ _ _ h => h) (Or.inl ⟨by rfl, ?_⟩) (by assumption) ?_
    rotate_left
    · (intro w hSw; (try dsimp only at hSw); go_simp; try (with_reducible rfl))
    try simp only [Act.put, List.setIfInBounds_toArray, List.set_cons_zero, List.set_cons_succ]
    refine wpAnyH_take (i := 7) (oi := { dst := some 40, op := Op.move (Operand.tmp 39), type := 4, pos := "law.go:55", after := #[{ on := 6, ground := Ground.data }, { on := 4, ground := Ground.chain }], guard := none }) (v := ?_) rfl (by kernel_rfl) (by kernel_rfl) (by kernel_rfl) (fun _ _ _ h => h) (Or.inl ⟨by rfl, ?_⟩) (by assumption) ?_
    rotate_left
    · (intro w hSw; (try dsimp only at hSw); go_simp; try (with_reducible rfl))
    try simp only [Act.put, List.setIfInBounds_toArray, List.set_cons_zero, List.set_cons_succ]
    refine wpAnyH_take (i := 8) (oi := { dst := some 41, op := Op.move (Operand.tmp 6), type := 4, pos := "law.go:55", after := #[{ on := 7, ground := Ground.guard }], guard := some (7, false) }) (v := ?_) rfl (by kernel_rfl) (by kernel_rfl) (by kernel_rfl) (fun _ _ _ h => h) (Or.inl ⟨by rfl, ?_⟩) (by assumption) ?_
    rotate_left
    · (intro w hSw; (try dsimp only at hSw); go_simp; try (with_reducible rfl))
    try simp only [Act.put, List.setIfInBounds_toArray, List.set_cons_zero, List.set_cons_succ]
    refine wpAnyH_take (i := 9) (oi := { dst := some 42, op := Op.move (Operand.tmp 41), type := 4, pos := "law.go:55", after := #[{ on := 8, ground := Ground.data }, { on := 7, ground := Ground.chain }, { on := 7, ground := Ground.guard }], guard := some (7, false) }) (v := ?_) rfl (by kernel_rfl) (by kernel_rfl) (by kernel_rfl) (fun _ _ _ h => h) (Or.inl ⟨by rfl, ?_⟩) (by assumption) ?_
    rotate_left
    · (intro w hSw; (try dsimp only at hSw); go_simp; try (with_reducible rfl))
    try simp only [Act.put, List.setIfInBounds_toArray, List.set_cons_zero, List.set_cons_succ]
    refine wpAnyH_take (i := 10) (oi := { dst := some 43, op := Op.move (Operand.tmp 0), type := 5, pos := "law.go:55", after := #[{ on := 9, ground := Ground.guard }], guard := some (9, true) }) (v := ?_) rfl (by kernel_rfl) (by kernel_rfl) (by kernel_rfl) (fun _ _ _ h => h) (Or.inl ⟨by rfl, ?_⟩) (by assumption) ?_
    rotate_left
    · (intro w hSw; (try dsimp only at hSw); go_simp; try (with_reducible rfl))
    try simp only [Act.put, List.setIfInBounds_toArray, List.set_cons_zero, List.set_cons_succ]
    refine wpAnyH_take (i := 11) (oi := { dst := some 44, op := Op.binOp BinOp.neq 5 (Operand.tmp 43) (Operand.const (Value.int IntKind.u8 1)) 5, type := 4, pos := "law.go:55", after := #[{ on := 10, ground := Ground.data }, { on := 9, ground := Ground.guard }], guard := some (9, true) }) (v := ?_) rfl (by kernel_rfl) (by kernel_rfl) (by kernel_rfl) (fun _ _ _ h => h) (Or.inl ⟨by rfl, ?_⟩) (by assumption) ?_
    rotate_left
    · (intro w hSw; (try dsimp only at hSw); go_simp; try (with_reducible rfl))
    try simp only [Act.put, List.setIfInBounds_toArray, List.set_cons_zero, List.set_cons_succ]
    refine wpAnyH_take (i := 12) (oi := { dst := some 45, op := Op.pick (Operand.tmp 42) (Operand.tmp 44) (Operand.const (Value.bool false)), type := 4, pos := "law.go:55", after := #[{ on := 9, ground := Ground.data }, { on := 11, ground := Ground.data }, { on := 7, ground := Ground.guard }], guard := some (7, false) }) (v := ?_) rfl (by kernel_rfl) (by kernel_rfl) (by kernel_rfl) (fun _ _ _ h => h) (Or.inl ⟨by rfl, ?_⟩) (by assumption) ?_
    rotate_left
    · (intro w hSw; (try dsimp only at hSw); go_simp; try (with_reducible rfl))
    try simp only [Act.put, List.setIfInBounds_toArray, List.set_cons_zero, List.set_cons_succ]
    refine wpAnyH_take (i := 13) (oi := { dst := some 46, op := Op.move (Operand.tmp 45), type := 4, pos := "law.go:55", after := #[{ on := 12, ground := Ground.data }, { on := 9, ground := Ground.chain }, { on := 7, ground := Ground.guard }], guard := some (7, false) }) (v := ?_) rfl (by kernel_rfl) (by kernel_rfl) (by kernel_rfl) (fun _ _ _ h => h) (Or.inl ⟨by rfl, ?_⟩) (by assumption) ?_
    rotate_left
    · (intro w hSw; (try dsimp only at hSw); go_simp; try (with_reducible rfl))
    try simp only [Act.put, List.setIfInBounds_toArray, List.set_cons_zero, List.set_cons_succ]
    refine wpAnyH_take (i := 14) (oi := { dst := some 47, op := Op.load 40 (Operand.tmp 5), type := 40, pos := "law.go:55", after := #[{ on := 13, ground := Ground.guard }], guard := some (13, true) }) (v := ?_) rfl (by kernel_rfl) (by kernel_rfl) (by kernel_rfl) (fun _ _ _ h => h) (Or.inl ⟨by rfl, ?_⟩) (by assumption) ?_
    rotate_left
    · (intro w hSw; (try dsimp only at hSw); go_simp; try (with_reducible rfl))
    try simp only [Act.put, List.setIfInBounds_toArray, List.set_cons_zero, List.set_cons_succ]
    refine wpAnyH_take (i := 15) (oi := { dst := some 48, op := Op.move (Operand.tmp 0), type := 5, pos := "law.go:55", after := #[{ on := 13, ground := Ground.guard }], guard := some (13, true) }) (v := ?_) rfl (by kernel_rfl) (by kernel_rfl) (by kernel_rfl) (fun _ _ _ h => h) (Or.inl ⟨by rfl, ?_⟩) (by assumption) ?_
    rotate_left
    · (intro w hSw; (try dsimp only at hSw); go_simp; try (with_reducible rfl))
    try simp only [Act.put, List.setIfInBounds_toArray, List.set_cons_zero, List.set_cons_succ]
    refine wpAnyH_ready (rs := [16]) (by kernel_rfl) (by simp) ?_
    refine AllReadyH.cons (o := { dst := some 49, op := Op.call { callee := Callee.value (Operand.func 26), args := #[Operand.tmp 48], argTypes := #[5] }, type := 40, pos := "law.go:55", after := #[{ on := 15, ground := Ground.data }, { on := 13, ground := Ground.chain }, { on := 13, ground := Ground.guard }], guard := some (13, true) }) rfl (fun K hK => ?_) AllReadyH.nil
    go_simp
    refine (rstart_any v hv9 _).mono ?_
    rw [HP.out]
    rintro e w5 ⟨rfl, h1⟩
    refine hK.out _ _ ?_ (fun hHeld => ?_)
    · (try dsimp only); (refine keepPQ p0 q0 ?_; repeat (first | exact Below.refl _ _ | assumption | refine bl_drew ?_ | refine bl_then ?_ (by assumption)))
    clear hK K
    try simp only [Act.put, List.setIfInBounds_toArray, List.set_cons_zero, List.set_cons_succ]
    refine wpAnyH_take (i := 17) (oi := { dst := some 50, op := Op.binOp BinOp.neq 40 (Operand.tmp 47) (Operand.tmp 49) 40, type := 4, pos := "law.go:55", after := #[{ on := 14, ground := Ground.data }, { on := 16, ground := Ground.data }, { on := 13, ground := Ground.guard }], guard := some (13, true) }) (v := ?_) rfl (by kernel_rfl) (by kernel_rfl) (by kernel_rfl) (fun _ _ _ h => h) (Or.inl ⟨by rfl, ?_⟩) (by assumption) ?_
    rotate_left
    · (intro w hSw; (try dsimp only at hSw); go_simp; try (with_reducible rfl))
    try simp only [Act.put, List.setIfInBounds_toArray, List.set_cons_zero, List.set_cons_succ]
    refine wpAnyH_take (i := 18) (oi := { dst := some 51, op := Op.pick (Operand.tmp 46) (Operand.tmp 50) (Operand.const (Value.bool false)), type := 4, pos := "law.go:55", after := #[{ on := 13, ground := Ground.data }, { on := 17, ground := Ground.data }, { on := 7, ground := Ground.guard }], guard := some (7, false) }) (v := ?_) rfl (by kernel_rfl) (by kernel_rfl) (by kernel_rfl) (fun _ _ _ h => h) (Or.inl ⟨by rfl, ?_⟩) (by assumption) ?_
    rotate_left
    · (intro w hSw; (try dsimp only at hSw); go_simp; try (with_reducible rfl))
    try simp only [Act.put, List.setIfInBounds_toArray, List.set_cons_zero, List.set_cons_succ]
    refine wpAnyH_take (i := 19) (oi := { dst := some 52, op := Op.pick (Operand.tmp 40) (Operand.const (Value.bool true)) (Operand.tmp 51), type := 4, pos := "law.go:55", after := #[{ on := 7, ground := Ground.data }, { on := 18, ground := Ground.data }], guard := none }) (v := ?_) rfl (by kernel_rfl) (by kernel_rfl) (by kernel_rfl) (fun _ _ _ h => h) (Or.inl ⟨by rfl, ?_⟩) (by assumption) ?_
    rotate_left
    · (intro w hSw; (try dsimp only at hSw); go_simp; try (with_reducible rfl))
    try simp only [Act.put, List.setIfInBounds_toArray, List.set_cons_zero, List.set_cons_succ]
    refine wpAnyH_take (i := 20) (oi := { dst := some 53, op := Op.move (Operand.tmp 52), type := 4, pos := "law.go:55", after := #[{ on := 19, ground := Ground.data }, { on := 16, ground := Ground.chain }], guard := none }) (v := ?_) rfl (by kernel_rfl) (by kernel_rfl) (by kernel_rfl) (fun _ _ _ h => h) (Or.inl ⟨by rfl, ?_⟩) (by assumption) ?_
    rotate_left
    · (intro w hSw; (try dsimp only at hSw); go_simp; try (with_reducible rfl))
    try simp only [Act.put, List.setIfInBounds_toArray, List.set_cons_zero, List.set_cons_succ]
    refine wpAnyH_take (i := 21) (oi := { dst := some 54, op := Op.move (Operand.tmp 8), type := 4, pos := "law.go:55", after := #[{ on := 20, ground := Ground.guard }], guard := some (20, false) }) (v := ?_) rfl (by kernel_rfl) (by kernel_rfl) (by kernel_rfl) (fun _ _ _ h => h) (Or.inl ⟨by rfl, ?_⟩) (by assumption) ?_
    rotate_left
    · (intro w hSw; (try dsimp only at hSw); go_simp; try (with_reducible rfl))
    try simp only [Act.put, List.setIfInBounds_toArray, List.set_cons_zero, List.set_cons_succ]
    refine wpAnyH_take (i := 22) (oi := { dst := some 55, op := Op.move (Operand.tmp 54), type := 4, pos := "law.go:55", after := #[{ on := 21, ground := Ground.data }, { on := 20, ground := Ground.chain }, { on := 20, ground := Ground.guard }], guard := some (20, false) }) (v := ?_) rfl (by kernel_rfl) (by kernel_rfl) (by kernel_rfl) (fun _ _ _ h => h) (Or.inl ⟨by rfl, ?_⟩) (by assumption) ?_
    rotate_left
    · (intro w hSw; (try dsimp only at hSw); go_simp; try (with_reducible rfl))
    try simp only [Act.put, List.setIfInBounds_toArray, List.set_cons_zero, List.set_cons_succ]
    refine wpAnyH_take (i := 23) (oi := { dst := some 56, op := Op.load 40 (Operand.tmp 7), type := 40, pos := "law.go:55", after := #[{ on := 22, ground := Ground.guard }], guard := some (22, true) }) (v := ?_) rfl (by kernel_rfl) (by kernel_rfl) (by kernel_rfl) (fun _ _ _ h => h) (Or.inl ⟨by rfl, ?_⟩) (by assumption) ?_
    rotate_left
    · (intro w hSw; (try dsimp only at hSw); go_simp; try (with_reducible rfl))
    try simp only [Act.put, List.setIfInBounds_toArray, List.set_cons_zero, List.set_cons_succ]
    refine wpAnyH_take (i := 24) (oi := { dst := some 57, op := Op.move (Operand.tmp 1), type := 3, pos := "law.go:55", after := #[{ on := 22, ground := Ground.guard }], guard := some (22, true) }) (v := ?_) rfl (by kernel_rfl) (by kernel_rfl) (by kernel_rfl) (fun _ _ _ h => h) (Or.inl ⟨by rfl, ?_⟩) (by assumption) ?_
    rotate_left
    · (intro w hSw; (try dsimp only at hSw); go_simp; try (with_reducible rfl))
    try simp only [Act.put, List.setIfInBounds_toArray, List.set_cons_zero, List.set_cons_succ]
    refine wpAnyH_ready (rs := [25]) (by kernel_rfl) (by simp) ?_
    refine AllReadyH.cons (o := { dst := some 58, op := Op.call { callee := Callee.value (Operand.func 25), args := #[Operand.tmp 57], argTypes := #[3] }, type := 40, pos := "law.go:55", after := #[{ on := 24, ground := Ground.data }, { on := 22, ground := Ground.chain }, { on := 22, ground := Ground.guard }], guard := some (22, true) }) rfl (fun K hK => ?_) AllReadyH.nil
    go_simp
    refine (rstart960_any m hn _).mono ?_
    rw [HQ.out]
    rintro e w5 ⟨rfl, h1⟩
    refine hK.out _ _ ?_ (fun hHeld => ?_)
    · (try dsimp only); (refine keepPQ p0 q0 ?_; repeat (first | exact Below.refl _ _ | assumption | refine bl_drew ?_ | refine bl_then ?_ (by assumption)))
    clear hK K
    try simp only [Act.put, List.setIfInBounds_toArray, List.set_cons_zero, List.set_cons_succ]
    refine wpAnyH_take (i := 26) (oi := { dst := some 59, op := Op.binOp BinOp.neq 40 (Operand.tmp 56) (Operand.tmp 58) 40, type := 4, pos := "law.go:55", after := #[{ on := 23, ground := Ground.data }, { on := 25, ground := Ground.data }, { on := 22, ground := Ground.guard }], guard := some (22, true) }) (v := ?_) rfl (by kernel_rfl) (by kernel_rfl) (by kernel_rfl) (fun _ _ _ h => h) (Or.inl ⟨by rfl, ?_⟩) (by assumption) ?_
    rotate_left
    · (intro w hSw; (try dsimp only at hSw); go_simp; try (with_reducible rfl))
    try simp only [Act.put, List.setIfInBounds_toArray, List.set_cons_zero, List.set_cons_succ]
    refine wpAnyH_take (i := 27) (oi := { dst := some 60, op := Op.pick (Operand.tmp 55) (Operand.tmp 59) (Operand.const (Value.bool false)), type := 4, pos := "law.go:55", after := #[{ on := 22, ground := Ground.data }, { on := 26, ground := Ground.data }, { on := 20, ground := Ground.guard }], guard := some (20, false) }) (v := ?_) rfl (by kernel_rfl) (by kernel_rfl) (by kernel_rfl) (fun _ _ _ h => h) (Or.inl ⟨by rfl, ?_⟩) (by assumption) ?_
    rotate_left
    · (intro w hSw; (try dsimp only at hSw); go_simp; try (with_reducible rfl))
    try simp only [Act.put, List.setIfInBounds_toArray, List.set_cons_zero, List.set_cons_succ]
    refine wpAnyH_take (i := 28) (oi := { dst := some 61, op := Op.pick (Operand.tmp 53) (Operand.const (Value.bool true)) (Operand.tmp 60), type := 4, pos := "law.go:55", after := #[{ on := 20, ground := Ground.data }, { on := 27, ground := Ground.data }], guard := none }) (v := ?_) rfl (by kernel_rfl) (by kernel_rfl) (by kernel_rfl) (fun _ _ _ h => h) (Or.inl ⟨by rfl, ?_⟩) (by assumption) ?_
    rotate_left
    · (intro w hSw; (try dsimp only at hSw); go_simp; try (with_reducible rfl))
    try simp only [Act.put, List.setIfInBounds_toArray, List.set_cons_zero, List.set_cons_succ]
    refine wpAnyH_done (by kernel_rfl) ?_ _
    go_wp2_with fail
    go_meet
    exact ⟨rfl, by repeat (first | exact Below.refl _ _ | assumption | refine bl_drew ?_ | refine bl_then ?_ (by assumption))⟩
  case rest =>
    obtain ⟨rfl, hq⟩ := hcut
    have p0 := p0.below hq p0.lt
    have q0 := q0.below hq q0.lt
    have hb := hb.trans (hq.mono hb.size)
    clear i1 r1 i2 r2 hq
    obtain ⟨i1, r1⟩ := p0.rules
    obtain ⟨i2, r2⟩ := q0.rules
    go_wp2_with (refine wpList_build rfl 40 _ rfl (by kernel_rfl) ?_; generalize hV : (Program.built Try.prog 40 _).getD #[] = V; obtain rfl : posA zeroN = V := Eq.trans (by kernel_rfl) hV; clear hV)
    go_ret
    exact ⟨rfl, hb⟩

set_option maxRecDepth 100000 in
set_option maxHeartbeats 8000000 in
theorem rs_var_neg (v : Nat) (hv : v ≤ 255) (n : Int) (hv9 : v < 9) (h1 : v ≠ 1) (hn : n < 0) (w : World) :
    Calls Try.prog 6 #[.int .u8 (v : Int), .int .i64 n] w fun e w' => e = .returned (.bool true) ∧ Below w.heap.size w w' := by
  have HV9 := hideIt (decide_eq_true hv9)
  have e9 : decide ((v : Int) < 9) = true := decide_eq_true (by omega)
  have e1 : ((v : Int) == 1) = false := beq_eq_false_iff_ne.2 (by omega)
  have e2 : ((v : Int) != 1) = true := by rw [bne, e1]; rfl
  clear h1
  have d9 : decide (0 ≤ n) = false := decide_eq_false (by omega)
  obtain ⟨Q, hQ⟩ : ∃ Q, zeroN = Q := ⟨_, rfl⟩
  have OQ := zero_ok
  have EZQ : eqP Q zeroN = true := by rw [← hQ]; exact eqP_self zeroN
  rw [hQ] at OQ
  have HQ := hideIt hQ
  clear hQ
  have hzp := zeroPos
  have OP := start_ok v
  obtain ⟨P, hP⟩ : ∃ P, startN v = P := ⟨_, rfl⟩
  rw [hP] at OP
  have HP := hideIt hP
  have EP := eqP_self P
  have EQ := eqP_self Q
  have EZ := eqP_self zeroN
  have OZ := zero_ok
  clear hP
  go_enter Try.func6, Try.ntmps6
  go_wp2_with fail
  refine (start_any v hv _).mono ?_
  rw [HP.out, HV9.out]
  rintro e Y ⟨rfl, hb⟩
  obtain ⟨V, hV⟩ : ∃ V, (Y.alloc (.cells (posA zeroN) 40)).setRow Y.heap.size (posA P) = V := ⟨_, rfl⟩
  have hV2 : Y.alloc (.cells (posA P) 40) = V := by rw [← hV, World.setRow_alloc_new]
  have p0 : PosAt V Y.heap.size P := by rw [← hV2]; exact PosAt.new Y _
  have hb : Below w.heap.size w V := by rw [← hV2]; exact hb.alloc hb.size _
  obtain ⟨g, hg⟩ : ∃ g, Y.heap.size = g := ⟨_, rfl⟩
  rw [hg] at p0
  have HV := hideIt hV
  have HG := hideIt hg
  clear hV hV2 hg
  go_wp2_with (rw [HV.out, HG.out])
  refine (start960_no n (.inl hn) _).mono ?_
  rw [HQ.out]
  rintro e Y2 ⟨rfl, h1⟩
  have p0 := p0.below h1 p0.lt
  have hb := hb.trans (h1.mono hb.size)
  clear h1
  obtain ⟨V2, hV⟩ : ∃ V, (Y2.alloc (.cells (posA zeroN) 40)).setRow Y2.heap.size (posA Q) = V := ⟨_, rfl⟩
  have hV2 : Y2.alloc (.cells (posA Q) 40) = V2 := by rw [← hV, World.setRow_alloc_new]
  have q0 : PosAt V2 Y2.heap.size Q := by rw [← hV2]; exact PosAt.new Y2 _
  have p0 : PosAt V2 g P := by rw [← hV2]; exact p0.alloc _
  have hb : Below w.heap.size w V2 := by rw [← hV2]; exact hb.alloc hb.size _
  obtain ⟨gq, hg⟩ : ∃ g, Y2.heap.size = g := ⟨_, rfl⟩
  rw [hg] at q0
  have HV := hideIt hV
  have HG := hideIt hg
  clear hV hV2 hg
  obtain ⟨i1, r1⟩ := p0.rules
  obtain ⟨i2, r2⟩ := q0.rules
  go_upto_region 5 with (rw [HV.out, HG.out])
  clear HV HG
  go_cut [61] (fun s61 wx => s61 = .bool false ∧ Below V2.heap.size V2 wx)
  case first =>
    obtain ⟨i3, r3⟩ : IsPos V2.drew g ∧ rowOf V2.drew g = _ := p0.rules
    obtain ⟨i4, r4⟩ : IsPos V2.drew gq ∧ rowOf V2.drew gq = _ := q0.rules
    refine wp_region_held_drew (S := (fun W => (IsPos W g ∧ rowOf W g = posA P) ∧ (IsPos W gq ∧ rowOf W gq = posA Q) ∧ Below V2.heap.size V2 W)) (by kernel_rfl) ?_ (fun hHeld => ?_)
    · (try dsimp only); (refine keepPQ p0 q0 ?_; repeat (first | exact Below.refl _ _ | assumption | refine bl_drew ?_ | refine bl_then ?_ (by assumption)))
    refine wpAnyH_take (i := 0) (oi := { dst := some 33, op := Op.move (Operand.tmp 0), type := 5, pos := "law.go:55", after := #[], guard := none }) (v := ?_) rfl (by kernel_rfl) (by kernel_rfl) (by kernel_rfl) (fun _ _ _ h => h) (Or.inl ⟨by rfl, ?_⟩) (by assumption) ?_
    rotate_left
    · (intro w hSw; (try dsimp only at hSw); go_simp; try (with_reducible rfl))
    try simp only [Act.put, List.setIfInBounds_toArray, List.set_cons_zero, List.set_cons_succ]
    refine wpAnyH_take (i := 1) (oi := { dst := some 34, op := Op.binOp BinOp.eql 5 (Operand.tmp 33) (Operand.const (Value.int IntKind.u8 1)) 5, type := 4, pos := "law.go:55", after := #[{ on := 0, ground := Ground.data }], guard := none }) (v := ?_) rfl (by kernel_rfl) (by kernel_rfl) (by kernel_rfl) (fun _ _ _ h => h) (Or.inl ⟨by rfl, ?_⟩) (by assumption) ?_
    rotate_left
    · (intro w hSw; (try dsimp only at hSw); go_simp; try (with_reducible rfl))
    try simp only [Act.put, List.setIfInBounds_toArray, List.set_cons_zero, List.set_cons_succ]
    refine wpAnyH_take (i := 2) (oi := { dst := some 35, op := Op.move (Operand.tmp 34), type := 4, pos := "law.go:55", after := #[{ on := 1, ground := Ground.data }], guard := none }) (v := ?_) rfl (by kernel_rfl) (by kernel_rfl) (by kernel_rfl) (fun _ _ _ h => h) (Or.inl ⟨by rfl, ?_⟩) (by assumption) ?_
    rotate_left
    · (intro w hSw; (try dsimp only at hSw); go_simp; try (with_reducible rfl))
    try simp only [Act.put, List.setIfInBounds_toArray, List.set_cons_zero, List.set_cons_succ]
    refine wpAnyH_take (i := 3) (oi := { dst := some 36, op := Op.load 40 (Operand.tmp 5), type := 40, pos := "law.go:55", after := #[{ on := 2, ground := Ground.guard }], guard := some (2, true) }) (v := undef) rfl (by kernel_rfl) (by kernel_rfl) (by kernel_rfl) (fun _ _ _ h => h) (Or.inr ⟨by rfl, rfl⟩) (by assumption) ?_
    try simp only [Act.put, List.setIfInBounds_toArray, List.set_cons_zero, List.set_cons_succ]
    refine wpAnyH_take (i := 4) (oi := { dst := some 37, op := Op.call { callee := Callee.value (Operand.func 25), args := #[Operand.const (Value.int IntKind.i64 518)], argTypes := #[3] }, type := 40, pos := "law.go:55", after := #[{ on := 2, ground := Ground.chain }, { on := 2, ground := Ground.guard }], guard := some (2, true) }) (v := undef) rfl (by kernel_rfl) (by kernel_rfl) (by kernel_rfl) (fun _ _ _ h => h) (Or.inr ⟨by rfl, rfl⟩) (by assumption) ?_
    try simp only [Act.put, List.setIfInBounds_toArray, List.set_cons_zero, List.set_cons_succ]
    refine wpAnyH_take (i := 5) (oi := { dst := some 38, op := Op.binOp BinOp.neq 40 (Operand.tmp 36) (Operand.tmp 37) 40, type := 4, pos := "law.go:55", after := #[{ on := 3, ground := Ground.data }, { on := 4, ground := Ground.data }, { on := 2, ground := Ground.guard }], guard := some (2, true) }) (v := undef) rfl (by kernel_rfl) (by kernel_rfl) (by kernel_rfl) (fun _ _ _ h => h) (Or.inr ⟨by rfl, rfl⟩) (by assumption) ?_
    try simp only [Act.put, List.setIfInBounds_toArray, List.set_cons_zero, List.set_cons_succ]
    refine wpAnyH_take (i := 6) (oi := { dst := some 39, op := Op.pick (Operand.tmp 35) (Operand.tmp 38) (Operand.const (Value.bool false)), type := 4, pos := "law.go:55", after := #[{ on := 2, ground := Ground.data }, { on := 5, ground := Ground.data }], guard := none }) (v := ?_) rfl (by kernel_rfl) (by kernel_rfl) (by kernel_rfl) (fun _ _ _ h => h) (Or.inl ⟨by rfl, ?_⟩) (by assumption) ?_
    rotate_left
    · (intro w hSw; (try dsimp only at hSw); go_simp; try (with_reducible rfl))
    try simp only [Act.put, List.setIfInBounds_toArray, List.set_cons_zero, List.set_cons_succ]
    refine wpAnyH_take (i := 7) (oi := { dst := some 40, op := Op.move (Operand.tmp 39), type := 4, pos := "law.go:55", after := #[{ on := 6, ground := Ground.data }, { on := 4, ground := Ground.chain }], guard := none }) (v := ?_) rfl (by kernel_rfl) (by kernel_rfl) (by kernel_rfl) (fun _ _ _ h => h) (Or.inl ⟨by rfl, ?_⟩) (by assumption) ?_
    rotate_left
    · (intro w hSw; (try dsimp only at hSw); go_simp; try (with_reducible rfl))
    try simp only [Act.put, List.setIfInBounds_toArray, List.set_cons_zero, List.set_cons_succ]
    refine wpAnyH_take (i := 8) (oi := { dst := some 41, op := Op.move (Operand.tmp 6), type := 4, pos := "law.go:55", after := #[{ on := 7, ground := Ground.guard }], guard := some (7, false) }) (v := ?_) rfl (by kernel_rfl) (by kernel_rfl) (by kernel_rfl) (fun _ _ _ h => h) (Or.inl ⟨by rfl, ?_⟩) (by assumption) ?_
    rotate_left
    · (intro w hSw; (try dsimp only at hSw); go_simp; try (with_reducible rfl))
    try simp only [Act.put, List.setIfInBounds_toArray, List.set_cons_zero, List.set_cons_succ]
    refine wpAnyH_take (i := 9) (oi := { dst := some 42, op := Op.move (Operand.tmp 41), type := 4, pos := "law.go:55", after := #[{ on := 8, ground := Ground.data }, { on := 7, ground := Ground.chain }, { on := 7, ground := Ground.guard }], guard := some (7, false) }) (v := ?_) rfl (by kernel_rfl) (by kernel_rfl) (by kernel_rfl) (fun _ _ _ h => h) (Or.inl ⟨by rfl, ?_⟩) (by assumption) ?_
    rotate_left
    · (intro w hSw; (try dsimp only at hSw); go_simp; try (with_reducible rfl))
    try simp only [Act.put, List.setIfInBounds_toArray, List.set_cons_zero, List.set_cons_succ]
    refine wpAnyH_take (i := 10) (oi := { dst := some 43, op := Op.move (Operand.tmp 0), type := 5, pos := "law.go:55", after := #[{ on := 9, ground := Ground.guard }], guard := some (9, true) }) (v := ?_) rfl (by kernel_rfl) (by kernel_rfl) (by kernel_rfl) (fun _ _ _ h => h) (Or.inl ⟨by rfl, ?_⟩) (by assumption) ?_
    rotate_left
    · (intro w hSw; (try dsimp only at hSw); go_simp; try (with_reducible rfl))
    try simp only [Act.put, List.setIfInBounds_toArray, List.set_cons_zero, List.set_cons_succ]
    refine wpAnyH_take (i := 11) (oi := { dst := some 44, op := Op.binOp BinOp.neq 5 (Operand.tmp 43) (Operand.const (Value.int IntKind.u8 1)) 5, type := 4, pos := "law.go:55", after := #[{ on := 10, ground := Ground.data }, { on := 9, ground := Ground.guard }], guard := some (9, true) }) (v := ?_) rfl (by kernel_rfl) (by kernel_rfl) (by kernel_rfl) (fun _ _ _ h => h) (Or.inl ⟨by rfl, ?_⟩) (by assumption) ?_
    rotate_left
    · (intro w hSw; (try dsimp only at hSw); go_simp; try (with_reducible rfl))
    try simp only [Act.put, List.setIfInBounds_toArray, List.set_cons_zero, List.set_cons_succ]
    refine wpAnyH_take (i := 12) (oi := { dst := some 45, op := Op.pick (Operand.tmp 42) (Operand.tmp 44) (Operand.const (Value.bool false)), type := 4, pos := "law.go:55", after := #[{ on := 9, ground := Ground.data }, { on := 11, ground := Ground.data }, { on := 7, ground := Ground.guard }], guard := some (7, false) }) (v := ?_) rfl (by kernel_rfl) (by kernel_rfl) (by kernel_rfl) (fun _ _ _ h => h) (Or.inl ⟨by rfl, ?_⟩) (by assumption) ?_
    rotate_left
    · (intro w hSw; (try dsimp only at hSw); go_simp; try (with_reducible rfl))
    try simp only [Act.put, List.setIfInBounds_toArray, List.set_cons_zero, List.set_cons_succ]
    refine wpAnyH_take (i := 13) (oi := { dst := some 46, op := Op.move (Operand.tmp 45), type := 4, pos := "law.go:55", after := #[{ on := 12, ground := Ground.data }, { on := 9, ground := Ground.chain }, { on := 7, ground := Ground.guard }], guard := some (7, false) }) (v := ?_) rfl (by kernel_rfl) (by kernel_rfl) (by kernel_rfl) (fun _ _ _ h => h) (Or.inl ⟨by rfl, ?_⟩) (by assumption) ?_
    rotate_left
    · (intro w hSw; (try dsimp only at hSw); go_simp; try (with_reducible rfl))
    try simp only [Act.put, List.setIfInBounds_toArray, List.set_cons_zero, List.set_cons_succ]
    refine wpAnyH_take (i := 14) (oi := { dst := some 47, op := Op.load 40 (Operand.tmp 5), type := 40, pos := "law.go:55", after := #[{ on := 13, ground := Ground.guard }], guard := some (13, true) }) (v := ?_) rfl (by kernel_rfl) (by kernel_rfl) (by kernel_rfl) (fun _ _ _ h => h) (Or.inl ⟨by rfl, ?_⟩) (by assumption) ?_
    rotate_left
    · (intro w hSw; (try dsimp only at hSw); go_simp; try (with_reducible rfl))
    try simp only [Act.put, List.setIfInBounds_toArray, List.set_cons_zero, List.set_cons_succ]
    refine wpAnyH_take (i := 15) (oi := { dst := some 48, op := Op.move (Operand.tmp 0), type := 5, pos := "law.go:55", after := #[{ on := 13, ground := Ground.guard }], guard := some (13, true) }) (v := ?_) rfl (by kernel_rfl) (by kernel_rfl) (by kernel_rfl) (fun _ _ _ h => h) (Or.inl ⟨by rfl, ?_⟩) (by assumption) ?_
    rotate_left
    · (intro w hSw; (try dsimp only at hSw); go_simp; try (with_reducible rfl))
    try simp only [Act.put, List.setIfInBounds_toArray, List.set_cons_zero, List.set_cons_succ]
    refine wpAnyH_ready (rs := [16]) (by kernel_rfl) (by simp) ?_
    refine AllReadyH.cons (o := { dst := some 49, op := Op.call { callee := Callee.value (Operand.func 26), args := #[Operand.tmp 48], argTypes := #[5] }, type := 40, pos := "law.go:55", after := #[{ on := 15, ground := Ground.data }, { on := 13, ground := Ground.chain }, { on := 13, ground := Ground.guard }], guard := some (13, true) }) rfl (fun K hK => ?_) AllReadyH.nil
    go_simp
    refine (rstart_any v hv9 _).mono ?_
    rw [HP.out]
    rintro e w5 ⟨rfl, h1⟩
    refine hK.out _ _ ?_ (fun hHeld => ?_)
    · (try dsimp only); (refine keepPQ p0 q0 ?_; repeat (first | exact Below.refl _ _ | assumption | refine bl_drew ?_ | refine bl_then ?_ (by assumption)))
    clear hK K
    try simp only [Act.put, List.setIfInBounds_toArray, List.set_cons_zero, List.set_cons_succ]
    refine wpAnyH_take (i := 17) (oi := { dst := some 50, op := Op.binOp BinOp.neq 40 (Operand.tmp 47) (Operand.tmp 49) 40, type := 4, pos := "law.go:55", after := #[{ on := 14, ground := Ground.data }, { on := 16, ground := Ground.data }, { on := 13, ground := Ground.guard }], guard := some (13, true) }) (v := ?_) rfl (by kernel_rfl) (by kernel_rfl) (by kernel_rfl) (fun _ _ _ h => h) (Or.inl ⟨by rfl, ?_⟩) (by assumption) ?_
    rotate_left
    · (intro w hSw; (try dsimp only at hSw); go_simp; try (with_reducible rfl))
    try simp only [Act.put, List.setIfInBounds_toArray, List.set_cons_zero, List.set_cons_succ]
    refine wpAnyH_take (i := 18) (oi := { dst := some 51, op := Op.pick (Operand.tmp 46) (Operand.tmp 50) (Operand.const (Value.bool false)), type := 4, pos := "law.go:55", after := #[{ on := 13, ground := Ground.data }, { on := 17, ground := Ground.data }, { on := 7, ground := Ground.guard }], guard := some (7, false) }) (v := ?_) rfl (by kernel_rfl) (by kernel_rfl) (by kernel_rfl) (fun _ _ _ h => h) (Or.inl ⟨by rfl, ?_⟩) (by assumption) ?_
    rotate_left
    · (intro w hSw; (try dsimp only at hSw); go_simp; try (with_reducible rfl))
    try simp only [Act.put, List.setIfInBounds_toArray, List.set_cons_zero, List.set_cons_succ]
    refine wpAnyH_take (i := 19) (oi := { dst := some 52, op := Op.pick (Operand.tmp 40) (Operand.const (Value.bool true)) (Operand.tmp 51), type := 4, pos := "law.go:55", after := #[{ on := 7, ground := Ground.data }, { on := 18, ground := Ground.data }], guard := none }) (v := ?_) rfl (by kernel_rfl) (by kernel_rfl) (by kernel_rfl) (fun _ _ _ h => h) (Or.inl ⟨by rfl, ?_⟩) (by assumption) ?_
    rotate_left
    · (intro w hSw; (try dsimp only at hSw); go_simp; try (with_reducible rfl))
    try simp only [Act.put, List.setIfInBounds_toArray, List.set_cons_zero, List.set_cons_succ]
    refine wpAnyH_take (i := 20) (oi := { dst := some 53, op := Op.move (Operand.tmp 52), type := 4, pos := "law.go:55", after := #[{ on := 19, ground := Ground.data }, { on := 16, ground := Ground.chain }], guard := none }) (v := ?_) rfl (by kernel_rfl) (by kernel_rfl) (by kernel_rfl) (fun _ _ _ h => h) (Or.inl ⟨by rfl, ?_⟩) (by assumption) ?_
    rotate_left
    · (intro w hSw; (try dsimp only at hSw); go_simp; try (with_reducible rfl))
    try simp only [Act.put, List.setIfInBounds_toArray, List.set_cons_zero, List.set_cons_succ]
    refine wpAnyH_take (i := 21) (oi := { dst := some 54, op := Op.move (Operand.tmp 8), type := 4, pos := "law.go:55", after := #[{ on := 20, ground := Ground.guard }], guard := some (20, false) }) (v := ?_) rfl (by kernel_rfl) (by kernel_rfl) (by kernel_rfl) (fun _ _ _ h => h) (Or.inl ⟨by rfl, ?_⟩) (by assumption) ?_
    rotate_left
    · (intro w hSw; (try dsimp only at hSw); go_simp; try (with_reducible rfl))
    try simp only [Act.put, List.setIfInBounds_toArray, List.set_cons_zero, List.set_cons_succ]
    refine wpAnyH_take (i := 22) (oi := { dst := some 55, op := Op.move (Operand.tmp 54), type := 4, pos := "law.go:55", after := #[{ on := 21, ground := Ground.data }, { on := 20, ground := Ground.chain }, { on := 20, ground := Ground.guard }], guard := some (20, false) }) (v := ?_) rfl (by kernel_rfl) (by kernel_rfl) (by kernel_rfl) (fun _ _ _ h => h) (Or.inl ⟨by rfl, ?_⟩) (by assumption) ?_
    rotate_left
    · (intro w hSw; (try dsimp only at hSw); go_simp; try (with_reducible rfl))
    try simp only [Act.put, List.setIfInBounds_toArray, List.set_cons_zero, List.set_cons_succ]
    refine wpAnyH_take (i := 23) (oi := { dst := some 56, op := Op.load 40 (Operand.tmp 7), type := 40, pos := "law.go:55", after := #[{ on := 22, ground := Ground.guard }], guard := some (22, true) }) (v := undef) rfl (by kernel_rfl) (by kernel_rfl) (by kernel_rfl) (fun _ _ _ h => h) (Or.inr ⟨by rfl, rfl⟩) (by assumption) ?_
    try simp only [Act.put, List.setIfInBounds_toArray, List.set_cons_zero, List.set_cons_succ]
    refine wpAnyH_take (i := 24) (oi := { dst := some 57, op := Op.move (Operand.tmp 1), type := 3, pos := "law.go:55", after := #[{ on := 22, ground := Ground.guard }], guard := some (22, true) }) (v := undef) rfl (by kernel_rfl) (by kernel_rfl) (by kernel_rfl) (fun _ _ _ h => h) (Or.inr ⟨by rfl, rfl⟩) (by assumption) ?_
    try simp only [Act.put, List.setIfInBounds_toArray, List.set_cons_zero, List.set_cons_succ]
    refine wpAnyH_take (i := 25) (oi := { dst := some 58, op := Op.call { callee := Callee.value (Operand.func 25), args := #[Operand.tmp 57], argTypes := #[3] }, type := 40, pos := "law.go:55", after := #[{ on := 24, ground := Ground.data }, { on := 22, ground := Ground.chain }, { on := 22, ground := Ground.guard }], guard := some (22, true) }) (v := undef) rfl (by kernel_rfl) (by kernel_rfl) (by kernel_rfl) (fun _ _ _ h => h) (Or.inr ⟨by rfl, rfl⟩) (by assumption) ?_
    try simp only [Act.put, List.setIfInBounds_toArray, List.set_cons_zero, List.set_cons_succ]
    refine wpAnyH_take (i := 26) (oi := { dst := some 59, op := Op.binOp BinOp.neq 40 (Operand.tmp 56) (Operand.tmp 58) 40, type := 4, pos := "law.go:55", after := #[{ on := 23, ground := Ground.data }, { on := 25, ground := Ground.data }, { on := 22, ground := Ground.guard }], guard := some (22, true) }) (v := undef) rfl (by kernel_rfl) (by kernel_rfl) (by kernel_rfl) (fun _ _ _ h => h) (Or.inr ⟨by rfl, rfl⟩) (by assumption) ?_
    try simp only [Act.put, List.setIfInBounds_toArray, List.set_cons_zero, List.set_cons_succ]
    refine wpAnyH_take (i := 27) (oi := { dst := some 60, op := Op.pick (Operand.tmp 55) (Operand.tmp 59) (Operand.const (Value.bool false)), type := 4, pos := "law.go:55", after := #[{ on := 22, ground := Ground.data }, { on := 26, ground := Ground.data }, { on := 20, ground := Ground.guard }], guard := some (20, false) }) (v := ?_) rfl (by kernel_rfl) (by kernel_rfl) (by kernel_rfl) (fun _ _ _ h => h) (Or.inl ⟨by rfl, ?_⟩) (by assumption) ?_
    rotate_left
    · (intro w hSw; (try dsimp only at hSw); go_simp; try (with_reducible rfl))
    try simp only [Act.put, List.setIfInBounds_toArray, List.set_cons_zero, List.set_cons_succ]
    refine wpAnyH_take (i := 28) (oi := { dst := some 61, op := Op.pick (Operand.tmp 53) (Operand.const (Value.bool true)) (Operand.tmp 60), type := 4, pos := "law.go:55", after := #[{ on := 20, ground := Ground.data }, { on := 27, ground := Ground.data }], guard := none }) (v := ?_) rfl (by kernel_rfl) (by kernel_rfl) (by kernel_rfl) (fun _ _ _ h => h) (Or.inl ⟨by rfl, ?_⟩) (by assumption) ?_
    rotate_left
    · (intro w hSw; (try dsimp only at hSw); go_simp; try (with_reducible rfl))
    try simp only [Act.put, List.setIfInBounds_toArray, List.set_cons_zero, List.set_cons_succ]
    refine wpAnyH_done (by kernel_rfl) ?_ _
    go_wp2_with fail
    go_meet
    exact ⟨rfl, by repeat (first | exact Below.refl _ _ | assumption | refine bl_drew ?_ | refine bl_then ?_ (by assumption))⟩
  case rest =>
    obtain ⟨rfl, hq⟩ := hcut
    have p0 := p0.below hq p0.lt
    have q0 := q0.below hq q0.lt
    have hb := hb.trans (hq.mono hb.size)
    clear i1 r1 i2 r2 hq
    obtain ⟨i1, r1⟩ := p0.rules
    obtain ⟨i2, r2⟩ := q0.rules
    go_wp2_with (refine wpList_build rfl 40 _ rfl (by kernel_rfl) ?_; generalize hV : (Program.built Try.prog 40 _).getD #[] = V; obtain rfl : posA zeroN = V := Eq.trans (by kernel_rfl) hV; clear hV)
    go_ret
    exact ⟨rfl, hb⟩

set_option maxRecDepth 100000 in
set_option maxHeartbeats 8000000 in
theorem rs_var_big (v : Nat) (hv : v ≤ 255) (n : Int) (hv9 : v < 9) (h1 : v ≠ 1) (hn0 : 0 ≤ n) (hn : 960 ≤ n) (w : World) :
    Calls Try.prog 6 #[.int .u8 (v : Int), .int .i64 n] w fun e w' => e = .returned (.bool true) ∧ Below w.heap.size w w' := by
  have HV9 := hideIt (decide_eq_true hv9)
  have e9 : decide ((v : Int) < 9) = true := decide_eq_true (by omega)
  have e1 : ((v : Int) == 1) = false := beq_eq_false_iff_ne.2 (by omega)
  have e2 : ((v : Int) != 1) = true := by rw [bne, e1]; rfl
  clear h1
  have d9 : decide (n < 960) = false := decide_eq_false (by omega)
  have d8 : decide (0 ≤ n) = true := decide_eq_true hn0
  obtain ⟨Q, hQ⟩ : ∃ Q, zeroN = Q := ⟨_, rfl⟩
  have OQ := zero_ok
  have EZQ : eqP Q zeroN = true := by rw [← hQ]; exact eqP_self zeroN
  rw [hQ] at OQ
  have HQ := hideIt hQ
  clear hQ
  have hzp := zeroPos
  have OP := start_ok v
  obtain ⟨P, hP⟩ : ∃ P, startN v = P := ⟨_, rfl⟩
  rw [hP] at OP
  have HP := hideIt hP
  have EP := eqP_self P
  have EQ := eqP_self Q
  have EZ := eqP_self zeroN
  have OZ := zero_ok
  clear hP
  go_enter Try.func6, Try.ntmps6
  go_wp2_with fail
  refine (start_any v hv _).mono ?_
  rw [HP.out, HV9.out]
  rintro e Y ⟨rfl, hb⟩
  obtain ⟨V, hV⟩ : ∃ V, (Y.alloc (.cells (posA zeroN) 40)).setRow Y.heap.size (posA P) = V := ⟨_, rfl⟩
  have hV2 : Y.alloc (.cells (posA P) 40) = V := by rw [← hV, World.setRow_alloc_new]
  have p0 : PosAt V Y.heap.size P := by rw [← hV2]; exact PosAt.new Y _
  have hb : Below w.heap.size w V := by rw [← hV2]; exact hb.alloc hb.size _
  obtain ⟨g, hg⟩ : ∃ g, Y.heap.size = g := ⟨_, rfl⟩
  rw [hg] at p0
  have HV := hideIt hV
  have HG := hideIt hg
  clear hV hV2 hg
  go_wp2_with (rw [HV.out, HG.out])
  refine (start960_no n (.inr hn) _).mono ?_
  rw [HQ.out]
  rintro e Y2 ⟨rfl, h1⟩
  have p0 := p0.below h1 p0.lt
  have hb := hb.trans (h1.mono hb.size)
  clear h1
  obtain ⟨V2, hV⟩ : ∃ V, (Y2.alloc (.cells (posA zeroN) 40)).setRow Y2.heap.size (posA Q) = V := ⟨_, rfl⟩
  have hV2 : Y2.alloc (.cells (posA Q) 40) = V2 := by rw [← hV, World.setRow_alloc_new]
  have q0 : PosAt V2 Y2.heap.size Q := by rw [← hV2]; exact PosAt.new Y2 _
  have p0 : PosAt V2 g P := by rw [← hV2]; exact p0.alloc _
  have hb : Below w.heap.size w V2 := by rw [← hV2]; exact hb.alloc hb.size _
  obtain ⟨gq, hg⟩ : ∃ g, Y2.heap.size = g := ⟨_, rfl⟩
  rw [hg] at q0
  have HV := hideIt hV
  have HG := hideIt hg
  clear hV hV2 hg
  obtain ⟨i1, r1⟩ := p0.rules
  obtain ⟨i2, r2⟩ := q0.rules
  go_upto_region 5 with (rw [HV.out, HG.out])
  clear HV HG
  go_cut [61] (fun s61 wx => s61 = .bool false ∧ Below V2.heap.size V2 wx)
  case first =>
    obtain ⟨i3, r3⟩ : IsPos V2.drew g ∧ rowOf V2.drew g = _ := p0.rules
    obtain ⟨i4, r4⟩ : IsPos V2.drew gq ∧ rowOf V2.drew gq = _ := q0.rules
    refine wp_region_held_drew (S := (fun W => (IsPos W g ∧ rowOf W g = posA P) ∧ (IsPos W gq ∧ rowOf W gq = posA Q) ∧ Below V2.heap.size V2 W)) (by kernel_rfl) ?_ (fun hHeld => ?_)
    · (try dsimp only); (refine keepPQ p0 q0 ?_; repeat (first | exact Below.refl _ _ | assumption | refine bl_drew ?_ | refine bl_then ?_ (by assumption)))
    refine wpAnyH_take (i := 0) (oi := { dst := some 33, op := Op.move (Operand.tmp 0), type := 5, pos := "law.go:55", after := #[], guard := none }) (v := ?_) rfl (by kernel_rfl) (by kernel_rfl) (by kernel_rfl) (fun _ _ _ h => h) (Or.inl ⟨by rfl, ?_⟩) (by assumption) ?_
    rotate_left
    · (intro w hSw; (try dsimp only at hSw); go_simp; try (with_reducible rfl))
    try simp only [Act.put, List.setIfInBounds_toArray, List.set_cons_zero, List.set_cons_succ]
    refine wpAnyH_take (i := 1) (oi := { dst := some 34, op := Op.binOp BinOp.eql 5 (Operand.tmp 33) (Operand.const (Value.int IntKind.u8 1)) 5, type := 4, pos := "law.go:55", after := #[{ on := 0, ground := Ground.data }], guard := none }) (v := ?_) rfl (by kernel_rfl) (by kernel_rfl) (by kernel_rfl) (fun _ _ _ h => h) (Or.inl ⟨by rfl, ?_⟩) (by assumption) ?_
    rotate_left
    · (intro w hSw; (try dsimp only at hSw); go_simp; try (with_reducible rfl))
    try simp only [Act.put, List.setIfInBounds_toArray, List.set_cons_zero, List.set_cons_succ]
    refine wpAnyH_take (i := 2) (oi := { dst := some 35, op := Op.move (Operand.tmp 34), type := 4, pos := "law.go:55", after := #[{ on := 1, ground := Ground.data }], guard := none }) (v := ?_) rfl (by kernel_rfl) (by kernel_rfl) (by kernel_rfl) (fun _ _ _ h => h) (Or.inl ⟨by rfl, ?_⟩) (by assumption) ?_
    rotate_left
    · (intro w hSw; (try dsimp only at hSw); go_simp; try (with_reducible rfl))
    try simp only [Act.put, List.setIfInBounds_toArray, List.set_cons_zero, List.set_cons_succ]
    refine wpAnyH_take (i := 3) (oi := { dst := some 36, op := Op.load 40 (Operand.tmp 5), type := 40, pos := "law.go:55", after := #[{ on := 2, ground := Ground.guard }], guard := some (2, true) }) (v := undef) rfl (by kernel_rfl) (by kernel_rfl) (by kernel_rfl) (fun _ _ _ h => h) (Or.inr ⟨by rfl, rfl⟩) (by assumption) ?_
    try simp only [Act.put, List.setIfInBounds_toArray, List.set_cons_zero, List.set_cons_succ]
    refine wpAnyH_take (i := 4) (oi := { dst := some 37, op := Op.call { callee := Callee.value (Operand.func 25), args := #[Operand.const (Value.int IntKind.i64 518)], argTypes := #[3] }, type := 40, pos := "law.go:55", after := #[{ on := 2, ground := Ground.chain }, { on := 2, ground := Ground.guard }], guard := some (2, true) }) (v := undef) rfl (by kernel_rfl) (by kernel_rfl) (by kernel_rfl) (fun _ _ _ h => h) (Or.inr ⟨by rfl, rfl⟩) (by assumption) ?_
    try simp only [Act.put, List.setIfInBounds_toArray, List.set_cons_zero, List.set_cons_succ]
    refine wpAnyH_take (i := 5) (oi := { dst := some 38, op := Op.binOp BinOp.neq 40 (Operand.tmp 36) (Operand.tmp 37) 40, type := 4, pos := "law.go:55", after := #[{ on := 3, ground := Ground.data }, { on := 4, ground := Ground.data }, { on := 2, ground := Ground.guard }], guard := some (2, true) }) (v := undef) rfl (by kernel_rfl) (by kernel_rfl) (by kernel_rfl) (fun _ _ _ h => h) (Or.inr ⟨by rfl, rfl⟩) (by assumption) ?_
    try simp only [Act.put, List.setIfInBounds_toArray, List.set_cons_zero, List.set_cons_succ]
    refine wpAnyH_take (i := 6) (oi := { dst := some 39, op := Op.pick (Operand.tmp 35) (Operand.tmp 38) (Operand.const (Value.bool false)), type := 4, pos := "law.go:55", after := #[{ on := 2, ground := Ground.data }, { on := 5, ground := Ground.data }], guard := none }) (v := ?_) rfl (by kernel_rfl) (by kernel_rfl) (by kernel_rfl) (fun _ _ _ h => h) (Or.inl ⟨by rfl, ?_⟩) (by assumption) ?_
    rotate_left
    · (intro w hSw; (try dsimp only at hSw); go_simp; try (with_reducible rfl))
    try simp only [Act.put, List.setIfInBounds_toArray, List.set_cons_zero, List.set_cons_succ]
    refine wpAnyH_take (i := 7) (oi := { dst := some 40, op := Op.move (Operand.tmp 39), type := 4, pos := "law.go:55", after := #[{ on := 6, ground := Ground.data }, { on := 4, ground := Ground.chain }], guard := none }) (v := ?_) rfl (by kernel_rfl) (by kernel_rfl) (by kernel_rfl) (fun _ _ _ h => h) (Or.inl ⟨by rfl, ?_⟩) (by assumption) ?_
    rotate_left
    · (intro w hSw; (try dsimp only at hSw); go_simp; try (with_reducible rfl))
    try simp only [Act.put, List.setIfInBounds_toArray, List.set_cons_zero, List.set_cons_succ]
    refine wpAnyH_take (i := 8) (oi := { dst := some 41, op := Op.move (Operand.tmp 6), type := 4, pos := "law.go:55", after := #[{ on := 7, ground := Ground.guard }], guard := some (7, false) }) (v := ?_) rfl (by kernel_rfl) (by kernel_rfl) (by kernel_rfl) (fun _ _ _ h => h) (Or.inl ⟨by rfl, ?_⟩) (by assumption) ?_
    rotate_left
    · (intro w hSw; (try dsimp only at hSw); go_simp; try (with_reducible rfl))
    try simp only [Act.put, List.setIfInBounds_toArray, List.set_cons_zero, List.set_cons_succ]
    refine wpAnyH_take (i := 9) (oi := { dst := some 42, op := Op.move (Operand.tmp 41), type := 4, pos := "law.go:55", after := #[{ on := 8, ground := Ground.data }, { on := 7, ground := Ground.chain }, { on := 7, ground := Ground.guard }], guard := some (7, false) }) (v := ?_) rfl (by kernel_rfl) (by kernel_rfl) (by kernel_rfl) (fun _ _ _ h => h) (Or.inl ⟨by rfl, ?_⟩) (by assumption) ?_
    rotate_left
    · (intro w hSw; (try dsimp only at hSw); go_simp; try (with_reducible rfl))
    try simp only [Act.put, List.setIfInBounds_toArray, List.set_cons_zero, List.set_cons_succ]
    refine wpAnyH_take (i := 10) (oi := { dst := some 43, op := Op.move (Operand.tmp 0), type := 5, pos := "law.go:55", after := #[{ on := 9, ground := Ground.guard }], guard := some (9, true) }) (v := ?_) rfl (by kernel_rfl) (by kernel_rfl) (by kernel_rfl) (fun _ _ _ h => h) (Or.inl ⟨by rfl, ?_⟩) (by assumption) ?_
    rotate_left
    · (intro w hSw; (try dsimp only at hSw); go_simp; try (with_reducible rfl))
    try simp only [Act.put, List.setIfInBounds_toArray, List.set_cons_zero, List.set_cons_succ]
    refine wpAnyH_take (i := 11) (oi := { dst := some 44, op := Op.binOp BinOp.neq 5 (Operand.tmp 43) (Operand.const (Value.int IntKind.u8 1)) 5, type := 4, pos := "law.go:55", after := #[{ on := 10, ground := Ground.data }, { on := 9, ground := Ground.guard }], guard := some (9, true) }) (v := ?_) rfl (by kernel_rfl) (by kernel_rfl) (by kernel_rfl) (fun _ _ _ h => h) (Or.inl ⟨by rfl, ?_⟩) (by assumption) ?_
    rotate_left
    · (intro w hSw; (try dsimp only at hSw); go_simp; try (with_reducible rfl))
    try simp only [Act.put, List.setIfInBounds_toArray, List.set_cons_zero, List.set_cons_succ]
    refine wpAnyH_take (i := 12) (oi := { dst := some 45, op := Op.pick (Operand.tmp 42) (Operand.tmp 44) (Operand.const (Value.bool false)), type := 4, pos := "law.go:55", after := #[{ on := 9, ground := Ground.data }, { on := 11, ground := Ground.data }, { on := 7, ground := Ground.guard }], guard := some (7, false) }) (v := ?_) rfl (by kernel_rfl) (by kernel_rfl) (by kernel_rfl) (fun _ _ _ h => h) (Or.inl ⟨by rfl, ?_⟩) (by assumption) ?_
    rotate_left
    · (intro w hSw; (try dsimp only at hSw); go_simp; try (with_reducible rfl))
    try simp only [Act.put, List.setIfInBounds_toArray, List.set_cons_zero, List.set_cons_succ]
    refine wpAnyH_take (i := 13) (oi := { dst := some 46, op := Op.move (Operand.tmp 45), type := 4, pos := "law.go:55", after := #[{ on := 12, ground := Ground.data }, { on := 9, ground := Ground.chain }, { on := 7, ground := Ground.guard }], guard := some (7, false) }) (v := ?_) rfl (by kernel_rfl) (by kernel_rfl) (by kernel_rfl) (fun _ _ _ h => h) (Or.inl ⟨by rfl, ?_⟩) (by assumption) ?_
    rotate_left
    · (intro w hSw; (try dsimp only at hSw); go_simp; try (with_reducible rfl))
    try simp only [Act.put, List.setIfInBounds_toArray, List.set_cons_zero, List.set_cons_succ]
    refine wpAnyH_take (i := 14) (oi := { dst := some 47, op := Op.load 40 (Operand.tmp 5), type := 40, pos := "law.go:55", after := #[{ on := 13, ground := Ground.guard }], guard := some (13, true) }) (v := ?_) rfl (by kernel_rfl) (by kernel_rfl) (by kernel_rfl) (fun _ _ _ h => h) (Or.inl ⟨by rfl, ?_⟩) (by assumption) ?_
    rotate_left
    · (intro w hSw; (try dsimp only at hSw); go_simp; try (with_reducible rfl))
    try simp only [Act.put, List.setIfInBounds_toArray, List.set_cons_zero, List.set_cons_succ]
    refine wpAnyH_take (i := 15) (oi := { dst := some 48, op := Op.move (Operand.tmp 0), type := 5, pos := "law.go:55", after := #[{ on := 13, ground := Ground.guard }], guard := some (13, true) }) (v := ?_) rfl (by kernel_rfl) (by kernel_rfl) (by kernel_rfl) (fun _ _ _ h => h) (Or.inl ⟨by rfl, ?_⟩) (by assumption) ?_
    rotate_left
    · (intro w hSw; (try dsimp only at hSw); go_simp; try (with_reducible rfl))
    try simp only [Act.put, List.setIfInBounds_toArray, List.set_cons_zero, List.set_cons_succ]
    refine wpAnyH_ready (rs := [16]) (by kernel_rfl) (by simp) ?_
    refine AllReadyH.cons (o := { dst := some 49, op := Op.call { callee := Callee.value (Operand.func 26), args := #[Operand.tmp 48], argTypes := #[5] }, type := 40, pos := "law.go:55", after := #[{ on := 15, ground := Ground.data }, { on := 13, ground := Ground.chain }, { on := 13, ground := Ground.guard }], guard := some (13, true) }) rfl (fun K hK => ?_) AllReadyH.nil
    go_simp
    refine (rstart_any v hv9 _).mono ?_
    rw [HP.out]
    rintro e w5 ⟨rfl, h1⟩
    refine hK.out _ _ ?_ (fun hHeld => ?_)
    · (try dsimp only); (refine keepPQ p0 q0 ?_; repeat (first | exact Below.refl _ _ | assumption | refine bl_drew ?_ | refine bl_then ?_ (by assumption)))
    clear hK K
    try simp only [Act.put, List.setIfInBounds_toArray, List.set_cons_zero, List.set_cons_succ]
    refine wpAnyH_take (i := 17) (oi := { dst := some 50, op := Op.binOp BinOp.neq 40 (Operand.tmp 47) (Operand.tmp 49) 40, type := 4, pos := "law.go:55", after := #[{ on := 14, ground := Ground.data }, { on := 16, ground := Ground.data }, { on := 13, ground := Ground.guard }], guard := some (13, true) }) (v := ?_) rfl (by kernel_rfl) (by kernel_rfl) (by kernel_rfl) (fun _ _ _ h => h) (Or.inl ⟨by rfl, ?_⟩) (by assumption) ?_
    rotate_left
    · (intro w hSw; (try dsimp only at hSw); go_simp; try (with_reducible rfl))
    try simp only [Act.put, List.setIfInBounds_toArray, List.set_cons_zero, List.set_cons_succ]
    refine wpAnyH_take (i := 18) (oi := { dst := some 51, op := Op.pick (Operand.tmp 46) (Operand.tmp 50) (Operand.const (Value.bool false)), type := 4, pos := "law.go:55", after := #[{ on := 13, ground := Ground.data }, { on := 17, ground := Ground.data }, { on := 7, ground := Ground.guard }], guard := some (7, false) }) (v := ?_) rfl (by kernel_rfl) (by kernel_rfl) (by kernel_rfl) (fun _ _ _ h => h) (Or.inl ⟨by rfl, ?_⟩) (by assumption) ?_
    rotate_left
    · (intro w hSw; (try dsimp only at hSw); go_simp; try (with_reducible rfl))
    try simp only [Act.put, List.setIfInBounds_toArray, List.set_cons_zero, List.set_cons_succ]
    refine wpAnyH_take (i := 19) (oi := { dst := some 52, op := Op.pick (Operand.tmp 40) (Operand.const (Value.bool true)) (Operand.tmp 51), type := 4, pos := "law.go:55", after := #[{ on := 7, ground := Ground.data }, { on := 18, ground := Ground.data }], guard := none }) (v := ?_) rfl (by kernel_rfl) (by kernel_rfl) (by kernel_rfl) (fun _ _ _ h => h) (Or.inl ⟨by rfl, ?_⟩) (by assumption) ?_
    rotate_left
    · (intro w hSw; (try dsimp only at hSw); go_simp; try (with_reducible rfl))
    try simp only [Act.put, List.setIfInBounds_toArray, List.set_cons_zero, List.set_cons_succ]
    refine wpAnyH_take (i := 20) (oi := { dst := some 53, op := Op.move (Operand.tmp 52), type := 4, pos := "law.go:55", after := #[{ on := 19, ground := Ground.data }, { on := 16, ground := Ground.chain }], guard := none }) (v := ?_) rfl (by kernel_rfl) (by kernel_rfl) (by kernel_rfl) (fun _ _ _ h => h) (Or.inl ⟨by rfl, ?_⟩) (by assumption) ?_
    rotate_left
    · (intro w hSw; (try dsimp only at hSw); go_simp; try (with_reducible rfl))
    try simp only [Act.put, List.setIfInBounds_toArray, List.set_cons_zero, List.set_cons_succ]
    refine wpAnyH_take (i := 21) (oi := { dst := some 54, op := Op.move (Operand.tmp 8), type := 4, pos := "law.go:55", after := #[{ on := 20, ground := Ground.guard }], guard := some (20, false) }) (v := ?_) rfl (by kernel_rfl) (by kernel_rfl) (by kernel_rfl) (fun _ _ _ h => h) (Or.inl ⟨by rfl, ?_⟩) (by assumption) ?_
    rotate_left
    · (intro w hSw; (try dsimp only at hSw); go_simp; try (with_reducible rfl))
    try simp only [Act.put, List.setIfInBounds_toArray, List.set_cons_zero, List.set_cons_succ]
    refine wpAnyH_take (i := 22) (oi := { dst := some 55, op := Op.move (Operand.tmp 54), type := 4, pos := "law.go:55", after := #[{ on := 21, ground := Ground.data }, { on := 20, ground := Ground.chain }, { on := 20, ground := Ground.guard }], guard := some (20, false) }) (v := ?_) rfl (by kernel_rfl) (by kernel_rfl) (by kernel_rfl) (fun _ _ _ h => h) (Or.inl ⟨by rfl, ?_⟩) (by assumption) ?_
    rotate_left
    · (intro w hSw; (try dsimp only at hSw); go_simp; try (with_reducible rfl))
    try simp only [Act.put, List.setIfInBounds_toArray, List.set_cons_zero, List.set_cons_succ]
    refine wpAnyH_take (i := 23) (oi := { dst := some 56, op := Op.load 40 (Operand.tmp 7), type := 40, pos := "law.go:55", after := #[{ on := 22, ground := Ground.guard }], guard := some (22, true) }) (v := undef) rfl (by kernel_rfl) (by kernel_rfl) (by kernel_rfl) (fun _ _ _ h => h) (Or.inr ⟨by rfl, rfl⟩) (by assumption) ?_
    try simp only [Act.put, List.setIfInBounds_toArray, List.set_cons_zero, List.set_cons_succ]
    refine wpAnyH_take (i := 24) (oi := { dst := some 57, op := Op.move (Operand.tmp 1), type := 3, pos := "law.go:55", after := #[{ on := 22, ground := Ground.guard }], guard := some (22, true) }) (v := undef) rfl (by kernel_rfl) (by kernel_rfl) (by kernel_rfl) (fun _ _ _ h => h) (Or.inr ⟨by rfl, rfl⟩) (by assumption) ?_
    try simp only [Act.put, List.setIfInBounds_toArray, List.set_cons_zero, List.set_cons_succ]
    refine wpAnyH_take (i := 25) (oi := { dst := some 58, op := Op.call { callee := Callee.value (Operand.func 25), args := #[Operand.tmp 57], argTypes := #[3] }, type := 40, pos := "law.go:55", after := #[{ on := 24, ground := Ground.data }, { on := 22, ground := Ground.chain }, { on := 22, ground := Ground.guard }], guard := some (22, true) }) (v := undef) rfl (by kernel_rfl) (by kernel_rfl) (by kernel_rfl) (fun _ _ _ h => h) (Or.inr ⟨by rfl, rfl⟩) (by assumption) ?_
    try simp only [Act.put, List.setIfInBounds_toArray, List.set_cons_zero, List.set_cons_succ]
    refine wpAnyH_take (i := 26) (oi := { dst := some 59, op := Op.binOp BinOp.neq 40 (Operand.tmp 56) (Operand.tmp 58) 40, type := 4, pos := "law.go:55", after := #[{ on := 23, ground := Ground.data }, { on := 25, ground := Ground.data }, { on := 22, ground := Ground.guard }], guard := some (22, true) }) (v := undef) rfl (by kernel_rfl) (by kernel_rfl) (by kernel_rfl) (fun _ _ _ h => h) (Or.inr ⟨by rfl, rfl⟩) (by assumption) ?_
    try simp only [Act.put, List.setIfInBounds_toArray, List.set_cons_zero, List.set_cons_succ]
    refine wpAnyH_take (i := 27) (oi := { dst := some 60, op := Op.pick (Operand.tmp 55) (Operand.tmp 59) (Operand.const (Value.bool false)), type := 4, pos := "law.go:55", after := #[{ on := 22, ground := Ground.data }, { on := 26, ground := Ground.data }, { on := 20, ground := Ground.guard }], guard := some (20, false) }) (v := ?_) rfl (by kernel_rfl) (by kernel_rfl) (by kernel_rfl) (fun _ _ _ h => h) (Or.inl ⟨by rfl, ?_⟩) (by assumption) ?_
    rotate_left
    · (intro w hSw; (try dsimp only at hSw); go_simp; try (with_reducible rfl))
    try simp only [Act.put, List.setIfInBounds_toArray, List.set_cons_zero, List.set_cons_succ]
    refine wpAnyH_take (i := 28) (oi := { dst := some 61, op := Op.pick (Operand.tmp 53) (Operand.const (Value.bool true)) (Operand.tmp 60), type := 4, pos := "law.go:55", after := #[{ on := 20, ground := Ground.data }, { on := 27, ground := Ground.data }], guard := none }) (v := ?_) rfl (by kernel_rfl) (by kernel_rfl) (by kernel_rfl) (fun _ _ _ h => h) (Or.inl ⟨by rfl, ?_⟩) (by assumption) ?_
    rotate_left
    · (intro w hSw; (try dsimp only at hSw); go_simp; try (with_reducible rfl))
    try simp only [Act.put, List.setIfInBounds_toArray, List.set_cons_zero, List.set_cons_succ]
    refine wpAnyH_done (by kernel_rfl) ?_ _
    go_wp2_with fail
    go_meet
    exact ⟨rfl, by repeat (first | exact Below.refl _ _ | assumption | refine bl_drew ?_ | refine bl_then ?_ (by assumption))⟩
  case rest =>
    obtain ⟨rfl, hq⟩ := hcut
    have p0 := p0.below hq p0.lt
    have q0 := q0.below hq q0.lt
    have hb := hb.trans (hq.mono hb.size)
    clear i1 r1 i2 r2 hq
    obtain ⟨i1, r1⟩ := p0.rules
    obtain ⟨i2, r2⟩ := q0.rules
    go_wp2_with (refine wpList_build rfl 40 _ rfl (by kernel_rfl) ?_; generalize hV : (Program.built Try.prog 40 _).getD #[] = V; obtain rfl : posA zeroN = V := Eq.trans (by kernel_rfl) hV; clear hV)
    go_ret
    exact ⟨rfl, hb⟩

end Go.Proofs.Ytpheapolijhgjaa
