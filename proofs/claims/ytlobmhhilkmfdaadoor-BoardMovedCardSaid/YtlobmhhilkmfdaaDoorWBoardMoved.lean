/- The walk of BoardMoved. Written by gen_bmoved.py. -/
import Derived.Test.YtlobmhhilkmfdaaDoorMv
namespace Go.Proofs.YtlobmhhilkmfdaaDoor
open Go Go.RowKit
set_option linter.unusedVariables false

set_option maxHeartbeats 2000000 in
theorem moved_no (n : Nat → Int) (a1 a2 : Int) (w0 : PosOk n) (h : atN n a1 = 0 ∨ (atN n a1 ≠ 0 ∧ a2 < 0) ∨ (atN n a1 ≠ 0 ∧ 0 ≤ a2 ∧ 63 < a2) ∨ (atN n a1 ≠ 0 ∧ 0 ≤ a2 ∧ a2 ≤ 63 ∧ atN n a2 ≠ 0) ∨ (atN n a1 ≠ 0 ∧ 0 ≤ a2 ∧ a2 ≤ 63 ∧ atN n a2 = 0 ∧ a1 = a2)) (w : World) (hT : Tab w) :
    Calls Tryd.prog 8 #[.agg (posA n), .int .i64 a1, .int .i64 a2] w fun e w' => e = .returned (.bool true) ∧ Below w.heap.size w w' := by
  obtain ⟨X, hX0⟩ : ∃ X, w.alloc (.cells (posA n) 31) = X := ⟨_, rfl⟩
  obtain ⟨p0, hb⟩ := box1 w n X hX0
  have HX0 := hideIt hX0
  have hT := hT.below hb (Nat.le_refl _)
  have hzp := zeroPos
  obtain ⟨x, hX⟩ : ∃ x, atN n a1 = x := ⟨_, rfl⟩
  rw [hX] at h
  have HX := hideIt hX
  clear hX hX0
  rcases h with h | ⟨h, h2⟩ | ⟨h, h2, h3⟩ | ⟨h, h2, h3, h4⟩ | ⟨h, h2, h3, h4, h5⟩
  · have ex : (x == 0) = true := beq_iff_eq.2 h
    clear h
    go_enter Tryd.func8, Tryd.ntmps8
    go_wp2_with (rw [HX0.out])
    refine (awake_any _ hT).mono ?_
    rintro e w1 ⟨rfl, h1⟩
    have p0 := p0.below h1 p0.lt
    have hb := hb.trans (h1.mono hb.size)
    clear h1 hT
    obtain ⟨i0, r0⟩ := p0.rules
    go_wp2_with fail
    refine (at_any n w0 a1 _).mono ?_
    rw [HX.out]
    rintro e w2 ⟨rfl, h1⟩
    have p0 := p0.below h1 p0.lt
    have hb := hb.trans (h1.mono hb.size)
    clear h1 i0 r0
    go_wp2
    go_ret
    exact ⟨rfl, hb⟩
  · have ex : (x == 0) = false := beq_eq_false_iff_ne.2 h
    clear h
    go_enter Tryd.func8, Tryd.ntmps8
    go_wp2_with (rw [HX0.out])
    refine (awake_any _ hT).mono ?_
    rintro e w1 ⟨rfl, h1⟩
    have p0 := p0.below h1 p0.lt
    have hb := hb.trans (h1.mono hb.size)
    clear h1 hT
    obtain ⟨i0, r0⟩ := p0.rules
    go_wp2_with fail
    refine (at_any n w0 a1 _).mono ?_
    rw [HX.out]
    rintro e w2 ⟨rfl, h1⟩
    have p0 := p0.below h1 p0.lt
    have hb := hb.trans (h1.mono hb.size)
    clear h1 i0 r0
    go_wp2
    go_ret
    exact ⟨rfl, hb⟩
  · have ex : (x == 0) = false := beq_eq_false_iff_ne.2 h
    clear h
    go_enter Tryd.func8, Tryd.ntmps8
    go_wp2_with (rw [HX0.out])
    refine (awake_any _ hT).mono ?_
    rintro e w1 ⟨rfl, h1⟩
    have p0 := p0.below h1 p0.lt
    have hb := hb.trans (h1.mono hb.size)
    clear h1 hT
    obtain ⟨i0, r0⟩ := p0.rules
    go_wp2_with fail
    refine (at_any n w0 a1 _).mono ?_
    rw [HX.out]
    rintro e w2 ⟨rfl, h1⟩
    have p0 := p0.below h1 p0.lt
    have hb := hb.trans (h1.mono hb.size)
    clear h1 i0 r0
    go_wp2
    go_ret
    exact ⟨rfl, hb⟩
  · have ex : (x == 0) = false := beq_eq_false_iff_ne.2 h
    obtain ⟨y, hY⟩ : ∃ y, atN n a2 = y := ⟨_, rfl⟩
    rw [hY] at h4
    have ey : (y != 0) = true := by rw [bne, beq_eq_false_iff_ne.2 h4]; rfl
    have HY := hideIt hY
    clear h h4 hY
    go_enter Tryd.func8, Tryd.ntmps8
    go_wp2_with (rw [HX0.out])
    refine (awake_any _ hT).mono ?_
    rintro e w1 ⟨rfl, h1⟩
    have p0 := p0.below h1 p0.lt
    have hb := hb.trans (h1.mono hb.size)
    clear h1 hT
    obtain ⟨i0, r0⟩ := p0.rules
    go_wp2_with fail
    refine (at_any n w0 a1 _).mono ?_
    rw [HX.out]
    rintro e w2 ⟨rfl, h1⟩
    have p0 := p0.below h1 p0.lt
    have hb := hb.trans (h1.mono hb.size)
    clear h1 i0 r0
    obtain ⟨i0, r0⟩ := p0.rules
    go_wp2_with fail
    refine (at_any n w0 a2 _).mono ?_
    rw [HY.out]
    rintro e w3 ⟨rfl, h1⟩
    have hb := hb.trans (h1.mono hb.size)
    clear h1 i0 r0
    go_wp2
    go_ret
    exact ⟨rfl, hb⟩
  · have ex : (x == 0) = false := beq_eq_false_iff_ne.2 h
    have HY := hideIt h4
    have ef : (a1 == a2) = true := beq_iff_eq.2 h5
    clear h h4 h5
    go_enter Tryd.func8, Tryd.ntmps8
    go_wp2_with (rw [HX0.out])
    refine (awake_any _ hT).mono ?_
    rintro e w1 ⟨rfl, h1⟩
    have p0 := p0.below h1 p0.lt
    have hb := hb.trans (h1.mono hb.size)
    clear h1 hT
    obtain ⟨i0, r0⟩ := p0.rules
    go_wp2_with fail
    refine (at_any n w0 a1 _).mono ?_
    rw [HX.out]
    rintro e w2 ⟨rfl, h1⟩
    have p0 := p0.below h1 p0.lt
    have hb := hb.trans (h1.mono hb.size)
    clear h1 i0 r0
    obtain ⟨i0, r0⟩ := p0.rules
    go_wp2_with fail
    refine (at_any n w0 a2 _).mono ?_
    rw [HY.out]
    rintro e w3 ⟨rfl, h1⟩
    have hb := hb.trans (h1.mono hb.size)
    clear h1 i0 r0
    go_wp2
    go_ret
    exact ⟨rfl, hb⟩

set_option maxRecDepth 100000 in
set_option maxHeartbeats 2000000 in
theorem moved_0 (n : Nat → Int) (a1 a2 x : Int) (w0 : PosOk n) (hX : atN n a1 = x) (x0 : 0 ≤ x) (x1 : x ≤ 255) (hx : x ≠ 0) (hc : colI x = 0) (t0 : 0 ≤ a2) (t1 : a2 ≤ 63) (ht : atN n a2 = 0) (hne : a1 ≠ a2) (w : World) (hT : Tab w) :
    Calls Tryd.prog 8 #[.agg (posA n), .int .i64 a1, .int .i64 a2] w fun e w' => e = .returned (.bool true) ∧ Below w.heap.size w w' := by
  obtain ⟨f0, f1, hB⟩ := at_sq n a1 (by rw [hX]; exact hx)
  obtain ⟨m, hm⟩ : ∃ m, putN (putN n a1 0) a2 x = m := ⟨_, rfl⟩
  have mOk : PosOk m := by rw [← hm]; exact (w0.put a1 0 (by decide) (by decide)).put a2 x x0 x1
  have HC := hideIt hc
  have HM : Hid (putB (clearB (ofN n 0 (kndI x)) a1) a2 = ofN m 0 (kndI x)) := by
    have h := of_moved_yes n a1 a2 f0 f1 t0 (by omega) hne hB ht 0 (kndI x) (by rw [hX, ← hc]; exact want_put (by rw [← hX]; exact hB))
    rw [hX, hm] at h; exact h
  have HC0 : Hid (cntB (ofN m 0 0) = cntB (ofN n 0 0)) := by
    have h := cnt_moved n a1 a2 f0 f1 t0 (by omega) hne hB ht 0 0
    rw [hX, hm] at h; exact h
  have HC1 : Hid (cntB (ofN m 1 0) = cntB (ofN n 1 0)) := by
    have h := cnt_moved n a1 a2 f0 f1 t0 (by omega) hne hB ht 1 0
    rw [hX, hm] at h; exact h
  have HD : Hid (ofN m 1 0 = ofN n 1 0) := by
    have h := of_moved_no n a1 a2 f0 f1 t0 (by omega) hne hB ht 1 0 (want_col hB (by rw [hX, hc]; decide))
    rw [hX, hm] at h; exact h
  have HX := hideIt hX
  have HT := hideIt ht
  have HPM := hideIt hm
  have ex : (x == 0) = false := beq_eq_false_iff_ne.2 hx
  have ef : (a1 == a2) = false := beq_eq_false_iff_ne.2 hne
  have u1 : IntKind.u8.wrap 1 = 1 := by decide
  have u0 : IntKind.u8.wrap 0 = 0 := by decide
  obtain ⟨X, hX0⟩ : ∃ X, w.alloc (.cells (posA n) 31) = X := ⟨_, rfl⟩
  obtain ⟨p0, hb⟩ := box1 w n X hX0
  have HX0 := hideIt hX0
  have hT := hT.below hb (Nat.le_refl _)
  have hzp := zeroPos
  clear hX ht hm hX0 hx hc hne hB
  go_enter Tryd.func8, Tryd.ntmps8
  go_wp2_with (rw [HX0.out])
  refine (awake_any _ hT).mono ?_
  rintro e w1 ⟨rfl, h1⟩
  have p0 := p0.below h1 p0.lt
  have hb := hb.trans (h1.mono hb.size)
  clear h1 hT
  obtain ⟨i0, r0⟩ := p0.rules
  go_wp2_with fail
  refine (at_any n w0 a1 _).mono ?_
  rw [HX.out]
  rintro e w2 ⟨rfl, h1⟩
  have p0 := p0.below h1 p0.lt
  have hb := hb.trans (h1.mono hb.size)
  clear h1 i0 r0
  obtain ⟨i0, r0⟩ := p0.rules
  go_wp2_with fail
  refine (at_any n w0 a2 _).mono ?_
  rw [HT.out]
  rintro e w3 ⟨rfl, h1⟩
  have p0 := p0.below h1 p0.lt
  have hb := hb.trans (h1.mono hb.size)
  clear h1 i0 r0
  obtain ⟨i0, r0⟩ := p0.rules
  go_wp2_with fail
  refine (bput_any n a1 0 (by decide) (by decide) _).mono ?_
  rintro e w4 ⟨rfl, h1⟩
  have p0 := p0.below h1 p0.lt
  have hb := hb.trans (h1.mono hb.size)
  clear h1 i0 r0
  go_wp2_with fail
  refine (bput_any (putN n a1 0) a2 x x0 x1 _).mono ?_
  rw [HPM.out]
  rintro e Z ⟨rfl, h1⟩
  have p0 := p0.below h1 p0.lt
  have hb := hb.trans (h1.mono hb.size)
  clear h1
  obtain ⟨V, hV⟩ : ∃ V, (Z.alloc (.cells (posA zeroN) 31)).setRow Z.heap.size (posA m) = V := ⟨_, rfl⟩
  have hV2 : Z.alloc (.cells (posA m) 31) = V := by rw [← hV, World.setRow_alloc_new]
  have pa : PosAt V w.heap.size n := by rw [← hV2]; exact p0.alloc _
  obtain ⟨q, hq⟩ : ∃ q, Z.heap.size = q := ⟨_, rfl⟩
  have pq : PosAt V q m := by rw [← hV2, ← hq]; exact PosAt.new Z m
  have hb : Below w.heap.size w V := by rw [← hV2]; exact hb.alloc hb.size _
  have HV := hideIt hV
  have HQ := hideIt hq
  clear hV hV2 hq p0
  go_upto_region 7 with (rw [HV.out, HQ.out])
  clear HV HQ
  go_cut [9] (fun s9 wx => s9 = .int .u64 (u (ofN m 0 (kndI x))) ∧ Below V.heap.size V wx)
  case first =>
    refine wp_region_held_drew (S := (fun W => (IsPos W w.heap.size ∧ rowOf W w.heap.size = posA n) ∧ (IsPos W q ∧ rowOf W q = posA m) ∧ Below V.heap.size V W)) (by kernel_rfl) ?_ (fun hHeld => ?_)
    · (try dsimp only); (refine keep2 pa pq ?_; repeat (first | exact Below.refl _ _ | assumption | refine bl_drew ?_ | refine bl_new ?_ (Nat.le_refl _) | refine bl_then ?_ (by assumption)))
    refine wpAnyH_take (i := 0) (oi := { dst := some 42, op := Op.load 31 (Operand.tmp 3), type := 31, pos := "outright.go:105", after := #[], guard := none }) (v := ?_) rfl (by kernel_rfl) (by kernel_rfl) (by kernel_rfl) (fun _ _ _ h => h) (Or.inl ⟨by rfl, ?_⟩) (by assumption) ?_
    rotate_left
    · (intro w hSw; (try dsimp only at hSw); go_simp; try (with_reducible rfl))
    try simp only [Act.put, List.setIfInBounds_toArray, List.set_cons_zero, List.set_cons_succ]
    refine wpAnyH_take (i := 1) (oi := { dst := some 43, op := Op.move (Operand.tmp 7), type := 5, pos := "outright.go:105", after := #[], guard := none }) (v := ?_) rfl (by kernel_rfl) (by kernel_rfl) (by kernel_rfl) (fun _ _ _ h => h) (Or.inl ⟨by rfl, ?_⟩) (by assumption) ?_
    rotate_left
    · (intro w hSw; (try dsimp only at hSw); go_simp; try (with_reducible rfl))
    try simp only [Act.put, List.setIfInBounds_toArray, List.set_cons_zero, List.set_cons_succ]
    refine wpAnyH_take (i := 3) (oi := { dst := some 45, op := Op.move (Operand.tmp 7), type := 5, pos := "outright.go:105", after := #[], guard := none }) (v := ?_) rfl (by kernel_rfl) (by kernel_rfl) (by kernel_rfl) (fun _ _ _ h => h) (Or.inl ⟨by rfl, ?_⟩) (by assumption) ?_
    rotate_left
    · (intro w hSw; (try dsimp only at hSw); go_simp; try (with_reducible rfl))
    try simp only [Act.put, List.setIfInBounds_toArray, List.set_cons_zero, List.set_cons_succ]
    refine wpAnyH_take (i := 6) (oi := { dst := some 48, op := Op.move (Operand.tmp 1), type := 3, pos := "outright.go:105", after := #[], guard := none }) (v := ?_) rfl (by kernel_rfl) (by kernel_rfl) (by kernel_rfl) (fun _ _ _ h => h) (Or.inl ⟨by rfl, ?_⟩) (by assumption) ?_
    rotate_left
    · (intro w hSw; (try dsimp only at hSw); go_simp; try (with_reducible rfl))
    try simp only [Act.put, List.setIfInBounds_toArray, List.set_cons_zero, List.set_cons_succ]
    refine wpAnyH_take (i := 8) (oi := { dst := some 50, op := Op.move (Operand.tmp 2), type := 3, pos := "outright.go:105", after := #[], guard := none }) (v := ?_) rfl (by kernel_rfl) (by kernel_rfl) (by kernel_rfl) (fun _ _ _ h => h) (Or.inl ⟨by rfl, ?_⟩) (by assumption) ?_
    rotate_left
    · (intro w hSw; (try dsimp only at hSw); go_simp; try (with_reducible rfl))
    try simp only [Act.put, List.setIfInBounds_toArray, List.set_cons_zero, List.set_cons_succ]
    refine wpAnyH_ready (rs := [2]) (by kernel_rfl) (by simp) ?_
    refine AllReadyH.cons (o := { dst := some 44, op := Op.call { callee := Callee.value (Operand.func 25), args := #[Operand.tmp 43], argTypes := #[5] }, type := 5, pos := "outright.go:105", after := #[{ on := 1, ground := Ground.data }], guard := none }) rfl (fun K hK => ?_) AllReadyH.nil
    go_simp
    refine (color_any _ x0 x1 _).mono ?_
    rintro e w31 ⟨rfl, rfl⟩
    rw [HC.out]
    refine hK.out _ _ ?_ (fun hHeld => ?_)
    · (try dsimp only); (refine keep2 pa pq ?_; repeat (first | exact Below.refl _ _ | assumption | refine bl_drew ?_ | refine bl_new ?_ (Nat.le_refl _) | refine bl_then ?_ (by assumption)))
    clear hK K
    try simp only [Act.put, List.setIfInBounds_toArray, List.set_cons_zero, List.set_cons_succ]
    refine wpAnyH_ready (rs := [4]) (by kernel_rfl) (by simp) ?_
    refine AllReadyH.cons (o := { dst := some 46, op := Op.call { callee := Callee.value (Operand.func 26), args := #[Operand.tmp 45], argTypes := #[5] }, type := 5, pos := "outright.go:105", after := #[{ on := 3, ground := Ground.data }, { on := 2, ground := Ground.chain }], guard := none }) rfl (fun K hK => ?_) AllReadyH.nil
    go_simp
    refine (kind_any _ x0 x1 _).mono ?_
    rintro e w31 ⟨rfl, rfl⟩
    refine hK.out _ _ ?_ (fun hHeld => ?_)
    · (try dsimp only); (refine keep2 pa pq ?_; repeat (first | exact Below.refl _ _ | assumption | refine bl_drew ?_ | refine bl_new ?_ (Nat.le_refl _) | refine bl_then ?_ (by assumption)))
    clear hK K
    try simp only [Act.put, List.setIfInBounds_toArray, List.set_cons_zero, List.set_cons_succ]
    refine wpAnyH_ready (rs := [5]) (by kernel_rfl) (by simp) ?_
    refine AllReadyH.cons (o := { dst := some 47, op := Op.call { callee := Callee.value (Operand.func 12), args := #[Operand.tmp 42, Operand.tmp 44, Operand.tmp 46], argTypes := #[31, 5, 5] }, type := 23, pos := "outright.go:105", after := #[{ on := 0, ground := Ground.data }, { on := 2, ground := Ground.data }, { on := 4, ground := Ground.data }, { on := 4, ground := Ground.chain }], guard := none }) rfl (fun K hK => ?_) AllReadyH.nil
    go_simp
    refine (of_any n w0 _ _ _).mono ?_
    rintro e w31 ⟨rfl, h1⟩
    refine hK.out _ _ ?_ (fun hHeld => ?_)
    · (try dsimp only); (refine keep2 pa pq ?_; repeat (first | exact Below.refl _ _ | assumption | refine bl_drew ?_ | refine bl_new ?_ (Nat.le_refl _) | refine bl_then ?_ (by assumption)))
    clear hK K
    try simp only [Act.put, List.setIfInBounds_toArray, List.set_cons_zero, List.set_cons_succ]
    refine wpAnyH_ready (rs := [7]) (by kernel_rfl) (by simp) ?_
    refine AllReadyH.cons (o := { dst := some 49, op := Op.call { callee := Callee.value (Operand.func 30), args := #[Operand.tmp 47, Operand.tmp 48], argTypes := #[23, 3] }, type := 23, pos := "outright.go:105", after := #[{ on := 5, ground := Ground.data }, { on := 6, ground := Ground.data }, { on := 5, ground := Ground.chain }], guard := none }) rfl (fun K hK => ?_) AllReadyH.nil
    go_simp
    refine (clear_any (ofN n 0 (kndI x)) rfl a1 _).mono ?_
    rintro e w31 ⟨rfl, rfl⟩
    refine hK.out _ _ ?_ (fun hHeld => ?_)
    · (try dsimp only); (refine keep2 pa pq ?_; repeat (first | exact Below.refl _ _ | assumption | refine bl_drew ?_ | refine bl_new ?_ (Nat.le_refl _) | refine bl_then ?_ (by assumption)))
    clear hK K
    try simp only [Act.put, List.setIfInBounds_toArray, List.set_cons_zero, List.set_cons_succ]
    refine wpAnyH_ready (rs := [9]) (by kernel_rfl) (by simp) ?_
    refine AllReadyH.cons (o := { dst := some 51, op := Op.call { callee := Callee.value (Operand.func 29), args := #[Operand.tmp 49, Operand.tmp 50], argTypes := #[23, 3] }, type := 23, pos := "outright.go:105", after := #[{ on := 7, ground := Ground.data }, { on := 8, ground := Ground.data }, { on := 7, ground := Ground.chain }], guard := none }) rfl (fun K hK => ?_) AllReadyH.nil
    go_simp
    refine (put_any (clearB (ofN n 0 (kndI x)) a1) rfl a2 _).mono ?_
    rintro e w31 ⟨rfl, rfl⟩
    rw [HM.out]
    refine hK.out _ _ ?_ (fun hHeld => ?_)
    · (try dsimp only); (refine keep2 pa pq ?_; repeat (first | exact Below.refl _ _ | assumption | refine bl_drew ?_ | refine bl_new ?_ (Nat.le_refl _) | refine bl_then ?_ (by assumption)))
    clear hK K
    try simp only [Act.put, List.setIfInBounds_toArray, List.set_cons_zero, List.set_cons_succ]
    refine wpAnyH_take (i := 10) (oi := { dst := some 9, op := Op.assign (Operand.tmp 51), type := 23, pos := "outright.go:105", after := #[{ on := 9, ground := Ground.data }, { on := 9, ground := Ground.chain }, { on := 0, ground := Ground.phase }, { on := 1, ground := Ground.phase }, { on := 2, ground := Ground.phase }, { on := 3, ground := Ground.phase }, { on := 4, ground := Ground.phase }, { on := 5, ground := Ground.phase }, { on := 6, ground := Ground.phase }, { on := 7, ground := Ground.phase }, { on := 8, ground := Ground.phase }, { on := 9, ground := Ground.phase }], guard := none }) (v := ?_) rfl (by kernel_rfl) (by kernel_rfl) (by kernel_rfl) (fun _ _ _ h => h) (Or.inl ⟨by rfl, ?_⟩) (by assumption) ?_
    rotate_left
    · (intro w hSw; (try dsimp only at hSw); go_simp; try (with_reducible rfl))
    try simp only [Act.put, List.setIfInBounds_toArray, List.set_cons_zero, List.set_cons_succ]
    refine wpAnyH_done (by kernel_rfl) ?_ _
    go_wp2_with fail
    go_meet
    exact ⟨rfl, by repeat (first | exact Below.refl _ _ | assumption | refine bl_drew ?_ | refine bl_then ?_ (by assumption))⟩
  case rest =>
    obtain ⟨rfl, hq⟩ := hcut
    have pa := pa.below hq pa.lt
    have pq := pq.below hq pq.lt
    have hb := hb.trans (hq.mono hb.size)
    clear hq
    go_upto_region 8 with fail
    go_cut [6] (fun s6 wx => s6 = .bool true ∧ Below wc.heap.size wc wx)
    case first =>
      refine wp_region_held_drew (S := (fun W => (IsPos W w.heap.size ∧ rowOf W w.heap.size = posA n) ∧ (IsPos W q ∧ rowOf W q = posA m) ∧ Below wc.heap.size wc W)) (by kernel_rfl) ?_ (fun hHeld => ?_)
      · (try dsimp only); (refine keep2 pa pq ?_; repeat (first | exact Below.refl _ _ | assumption | refine bl_drew ?_ | refine bl_new ?_ (Nat.le_refl _) | refine bl_then ?_ (by assumption)))
      refine wpAnyH_take (i := 0) (oi := { dst := some 52, op := Op.load 31 (Operand.tmp 8), type := 31, pos := "outright.go:106", after := #[], guard := none }) (v := ?_) rfl (by kernel_rfl) (by kernel_rfl) (by kernel_rfl) (fun _ _ _ h => h) (Or.inl ⟨by rfl, ?_⟩) (by assumption) ?_
      rotate_left
      · (intro w hSw; (try dsimp only at hSw); go_simp; try (with_reducible rfl))
      try simp only [Act.put, List.setIfInBounds_toArray, List.set_cons_zero, List.set_cons_succ]
      refine wpAnyH_take (i := 1) (oi := { dst := some 53, op := Op.move (Operand.tmp 7), type := 5, pos := "outright.go:106", after := #[], guard := none }) (v := ?_) rfl (by kernel_rfl) (by kernel_rfl) (by kernel_rfl) (fun _ _ _ h => h) (Or.inl ⟨by rfl, ?_⟩) (by assumption) ?_
      rotate_left
      · (intro w hSw; (try dsimp only at hSw); go_simp; try (with_reducible rfl))
      try simp only [Act.put, List.setIfInBounds_toArray, List.set_cons_zero, List.set_cons_succ]
      refine wpAnyH_take (i := 3) (oi := { dst := some 55, op := Op.move (Operand.tmp 7), type := 5, pos := "outright.go:106", after := #[], guard := none }) (v := ?_) rfl (by kernel_rfl) (by kernel_rfl) (by kernel_rfl) (fun _ _ _ h => h) (Or.inl ⟨by rfl, ?_⟩) (by assumption) ?_
      rotate_left
      · (intro w hSw; (try dsimp only at hSw); go_simp; try (with_reducible rfl))
      try simp only [Act.put, List.setIfInBounds_toArray, List.set_cons_zero, List.set_cons_succ]
      refine wpAnyH_take (i := 6) (oi := { dst := some 58, op := Op.move (Operand.tmp 9), type := 23, pos := "outright.go:106", after := #[], guard := none }) (v := ?_) rfl (by kernel_rfl) (by kernel_rfl) (by kernel_rfl) (fun _ _ _ h => h) (Or.inl ⟨by rfl, ?_⟩) (by assumption) ?_
      rotate_left
      · (intro w hSw; (try dsimp only at hSw); go_simp; try (with_reducible rfl))
      try simp only [Act.put, List.setIfInBounds_toArray, List.set_cons_zero, List.set_cons_succ]
      refine wpAnyH_ready (rs := [2]) (by kernel_rfl) (by simp) ?_
      refine AllReadyH.cons (o := { dst := some 54, op := Op.call { callee := Callee.value (Operand.func 25), args := #[Operand.tmp 53], argTypes := #[5] }, type := 5, pos := "outright.go:106", after := #[{ on := 1, ground := Ground.data }], guard := none }) rfl (fun K hK => ?_) AllReadyH.nil
      go_simp
      refine (color_any _ x0 x1 _).mono ?_
      rintro e w31 ⟨rfl, rfl⟩
      rw [HC.out]
      refine hK.out _ _ ?_ (fun hHeld => ?_)
      · (try dsimp only); (refine keep2 pa pq ?_; repeat (first | exact Below.refl _ _ | assumption | refine bl_drew ?_ | refine bl_new ?_ (Nat.le_refl _) | refine bl_then ?_ (by assumption)))
      clear hK K
      try simp only [Act.put, List.setIfInBounds_toArray, List.set_cons_zero, List.set_cons_succ]
      refine wpAnyH_ready (rs := [4]) (by kernel_rfl) (by simp) ?_
      refine AllReadyH.cons (o := { dst := some 56, op := Op.call { callee := Callee.value (Operand.func 26), args := #[Operand.tmp 55], argTypes := #[5] }, type := 5, pos := "outright.go:106", after := #[{ on := 3, ground := Ground.data }, { on := 2, ground := Ground.chain }], guard := none }) rfl (fun K hK => ?_) AllReadyH.nil
      go_simp
      refine (kind_any _ x0 x1 _).mono ?_
      rintro e w31 ⟨rfl, rfl⟩
      refine hK.out _ _ ?_ (fun hHeld => ?_)
      · (try dsimp only); (refine keep2 pa pq ?_; repeat (first | exact Below.refl _ _ | assumption | refine bl_drew ?_ | refine bl_new ?_ (Nat.le_refl _) | refine bl_then ?_ (by assumption)))
      clear hK K
      try simp only [Act.put, List.setIfInBounds_toArray, List.set_cons_zero, List.set_cons_succ]
      refine wpAnyH_ready (rs := [5]) (by kernel_rfl) (by simp) ?_
      refine AllReadyH.cons (o := { dst := some 57, op := Op.call { callee := Callee.value (Operand.func 12), args := #[Operand.tmp 52, Operand.tmp 54, Operand.tmp 56], argTypes := #[31, 5, 5] }, type := 23, pos := "outright.go:106", after := #[{ on := 0, ground := Ground.data }, { on := 2, ground := Ground.data }, { on := 4, ground := Ground.data }, { on := 4, ground := Ground.chain }], guard := none }) rfl (fun K hK => ?_) AllReadyH.nil
      go_simp
      refine (of_any m mOk _ _ _).mono ?_
      rintro e w31 ⟨rfl, h1⟩
      refine hK.out _ _ ?_ (fun hHeld => ?_)
      · (try dsimp only); (refine keep2 pa pq ?_; repeat (first | exact Below.refl _ _ | assumption | refine bl_drew ?_ | refine bl_new ?_ (Nat.le_refl _) | refine bl_then ?_ (by assumption)))
      clear hK K
      try simp only [Act.put, List.setIfInBounds_toArray, List.set_cons_zero, List.set_cons_succ]
      refine wpAnyH_take (i := 7) (oi := { dst := some 59, op := Op.binOp BinOp.eql 23 (Operand.tmp 57) (Operand.tmp 58) 23, type := 4, pos := "outright.go:106", after := #[{ on := 5, ground := Ground.data }, { on := 6, ground := Ground.data }], guard := none }) (v := ?_) rfl (by kernel_rfl) (by kernel_rfl) (by kernel_rfl) (fun _ _ _ h => h) (Or.inl ⟨by rfl, ?_⟩) (by assumption) ?_
      rotate_left
      · (intro w hSw; (try dsimp only at hSw); go_simp; try (with_reducible rfl))
      try simp only [Act.put, List.setIfInBounds_toArray, List.set_cons_zero, List.set_cons_succ]
      refine wpAnyH_take (i := 8) (oi := { dst := some 60, op := Op.move (Operand.tmp 59), type := 4, pos := "outright.go:106", after := #[{ on := 7, ground := Ground.data }, { on := 5, ground := Ground.chain }], guard := none }) (v := ?_) rfl (by kernel_rfl) (by kernel_rfl) (by kernel_rfl) (fun _ _ _ h => h) (Or.inl ⟨by rfl, ?_⟩) (by assumption) ?_
      rotate_left
      · (intro w hSw; (try dsimp only at hSw); go_simp; try (with_reducible rfl))
      try simp only [Act.put, List.setIfInBounds_toArray, List.set_cons_zero, List.set_cons_succ]
      refine wpAnyH_take (i := 9) (oi := { dst := some 61, op := Op.load 31 (Operand.tmp 8), type := 31, pos := "outright.go:106", after := #[{ on := 8, ground := Ground.guard }], guard := some (8, true) }) (v := ?_) rfl (by kernel_rfl) (by kernel_rfl) (by kernel_rfl) (fun _ _ _ h => h) (Or.inl ⟨by rfl, ?_⟩) (by assumption) ?_
      rotate_left
      · (intro w hSw; (try dsimp only at hSw); go_simp; try (with_reducible rfl))
      try simp only [Act.put, List.setIfInBounds_toArray, List.set_cons_zero, List.set_cons_succ]
      refine wpAnyH_take (i := 11) (oi := { dst := some 63, op := Op.load 31 (Operand.tmp 3), type := 31, pos := "outright.go:106", after := #[{ on := 8, ground := Ground.guard }], guard := some (8, true) }) (v := ?_) rfl (by kernel_rfl) (by kernel_rfl) (by kernel_rfl) (fun _ _ _ h => h) (Or.inl ⟨by rfl, ?_⟩) (by assumption) ?_
      rotate_left
      · (intro w hSw; (try dsimp only at hSw); go_simp; try (with_reducible rfl))
      try simp only [Act.put, List.setIfInBounds_toArray, List.set_cons_zero, List.set_cons_succ]
      refine wpAnyH_ready (rs := [10]) (by kernel_rfl) (by simp) ?_
      refine AllReadyH.cons (o := { dst := some 62, op := Op.call { callee := Callee.value (Operand.func 17), args := #[Operand.tmp 61, Operand.const (Value.int IntKind.u8 0), Operand.const (Value.int IntKind.u8 0)], argTypes := #[31, 5, 5] }, type := 3, pos := "outright.go:106", after := #[{ on := 9, ground := Ground.data }, { on := 8, ground := Ground.chain }, { on := 8, ground := Ground.guard }], guard := some (8, true) }) rfl (fun K hK => ?_) AllReadyH.nil
      go_simp
      refine (bcount_any m mOk _ _ _).mono ?_
      rintro e w31 ⟨rfl, h1⟩
      rw [HC0.out]
      refine hK.out _ _ ?_ (fun hHeld => ?_)
      · (try dsimp only); (refine keep2 pa pq ?_; repeat (first | exact Below.refl _ _ | assumption | refine bl_drew ?_ | refine bl_new ?_ (Nat.le_refl _) | refine bl_then ?_ (by assumption)))
      clear hK K
      try simp only [Act.put, List.setIfInBounds_toArray, List.set_cons_zero, List.set_cons_succ]
      refine wpAnyH_ready (rs := [12]) (by kernel_rfl) (by simp) ?_
      refine AllReadyH.cons (o := { dst := some 64, op := Op.call { callee := Callee.value (Operand.func 17), args := #[Operand.tmp 63, Operand.const (Value.int IntKind.u8 0), Operand.const (Value.int IntKind.u8 0)], argTypes := #[31, 5, 5] }, type := 3, pos := "outright.go:106", after := #[{ on := 11, ground := Ground.data }, { on := 10, ground := Ground.chain }, { on := 8, ground := Ground.guard }], guard := some (8, true) }) rfl (fun K hK => ?_) AllReadyH.nil
      go_simp
      refine (bcount_any n w0 _ _ _).mono ?_
      rintro e w31 ⟨rfl, h1⟩
      refine hK.out _ _ ?_ (fun hHeld => ?_)
      · (try dsimp only); (refine keep2 pa pq ?_; repeat (first | exact Below.refl _ _ | assumption | refine bl_drew ?_ | refine bl_new ?_ (Nat.le_refl _) | refine bl_then ?_ (by assumption)))
      clear hK K
      try simp only [Act.put, List.setIfInBounds_toArray, List.set_cons_zero, List.set_cons_succ]
      refine wpAnyH_take (i := 13) (oi := { dst := some 65, op := Op.binOp BinOp.eql 3 (Operand.tmp 62) (Operand.tmp 64) 3, type := 4, pos := "outright.go:106", after := #[{ on := 10, ground := Ground.data }, { on := 12, ground := Ground.data }, { on := 8, ground := Ground.guard }], guard := some (8, true) }) (v := ?_) rfl (by kernel_rfl) (by kernel_rfl) (by kernel_rfl) (fun _ _ _ h => h) (Or.inl ⟨by rfl, ?_⟩) (by assumption) ?_
      rotate_left
      · (intro w hSw; (try dsimp only at hSw); go_simp; try (with_reducible rfl))
      try simp only [Act.put, List.setIfInBounds_toArray, List.set_cons_zero, List.set_cons_succ]
      refine wpAnyH_take (i := 14) (oi := { dst := some 66, op := Op.pick (Operand.tmp 60) (Operand.tmp 65) (Operand.const (Value.bool false)), type := 4, pos := "outright.go:106", after := #[{ on := 8, ground := Ground.data }, { on := 13, ground := Ground.data }], guard := none }) (v := ?_) rfl (by kernel_rfl) (by kernel_rfl) (by kernel_rfl) (fun _ _ _ h => h) (Or.inl ⟨by rfl, ?_⟩) (by assumption) ?_
      rotate_left
      · (intro w hSw; (try dsimp only at hSw); go_simp; try (with_reducible rfl))
      try simp only [Act.put, List.setIfInBounds_toArray, List.set_cons_zero, List.set_cons_succ]
      refine wpAnyH_take (i := 15) (oi := { dst := some 67, op := Op.move (Operand.tmp 66), type := 4, pos := "outright.go:106", after := #[{ on := 14, ground := Ground.data }, { on := 12, ground := Ground.chain }], guard := none }) (v := ?_) rfl (by kernel_rfl) (by kernel_rfl) (by kernel_rfl) (fun _ _ _ h => h) (Or.inl ⟨by rfl, ?_⟩) (by assumption) ?_
      rotate_left
      · (intro w hSw; (try dsimp only at hSw); go_simp; try (with_reducible rfl))
      try simp only [Act.put, List.setIfInBounds_toArray, List.set_cons_zero, List.set_cons_succ]
      refine wpAnyH_take (i := 16) (oi := { dst := some 68, op := Op.load 31 (Operand.tmp 8), type := 31, pos := "outright.go:106", after := #[{ on := 15, ground := Ground.guard }], guard := some (15, true) }) (v := ?_) rfl (by kernel_rfl) (by kernel_rfl) (by kernel_rfl) (fun _ _ _ h => h) (Or.inl ⟨by rfl, ?_⟩) (by assumption) ?_
      rotate_left
      · (intro w hSw; (try dsimp only at hSw); go_simp; try (with_reducible rfl))
      try simp only [Act.put, List.setIfInBounds_toArray, List.set_cons_zero, List.set_cons_succ]
      refine wpAnyH_take (i := 18) (oi := { dst := some 70, op := Op.load 31 (Operand.tmp 3), type := 31, pos := "outright.go:106", after := #[{ on := 15, ground := Ground.guard }], guard := some (15, true) }) (v := ?_) rfl (by kernel_rfl) (by kernel_rfl) (by kernel_rfl) (fun _ _ _ h => h) (Or.inl ⟨by rfl, ?_⟩) (by assumption) ?_
      rotate_left
      · (intro w hSw; (try dsimp only at hSw); go_simp; try (with_reducible rfl))
      try simp only [Act.put, List.setIfInBounds_toArray, List.set_cons_zero, List.set_cons_succ]
      refine wpAnyH_ready (rs := [17]) (by kernel_rfl) (by simp) ?_
      refine AllReadyH.cons (o := { dst := some 69, op := Op.call { callee := Callee.value (Operand.func 17), args := #[Operand.tmp 68, Operand.const (Value.int IntKind.u8 1), Operand.const (Value.int IntKind.u8 0)], argTypes := #[31, 5, 5] }, type := 3, pos := "outright.go:106", after := #[{ on := 16, ground := Ground.data }, { on := 15, ground := Ground.chain }, { on := 15, ground := Ground.guard }], guard := some (15, true) }) rfl (fun K hK => ?_) AllReadyH.nil
      go_simp
      refine (bcount_any m mOk _ _ _).mono ?_
      rintro e w31 ⟨rfl, h1⟩
      rw [HC1.out]
      refine hK.out _ _ ?_ (fun hHeld => ?_)
      · (try dsimp only); (refine keep2 pa pq ?_; repeat (first | exact Below.refl _ _ | assumption | refine bl_drew ?_ | refine bl_new ?_ (Nat.le_refl _) | refine bl_then ?_ (by assumption)))
      clear hK K
      try simp only [Act.put, List.setIfInBounds_toArray, List.set_cons_zero, List.set_cons_succ]
      refine wpAnyH_ready (rs := [19]) (by kernel_rfl) (by simp) ?_
      refine AllReadyH.cons (o := { dst := some 71, op := Op.call { callee := Callee.value (Operand.func 17), args := #[Operand.tmp 70, Operand.const (Value.int IntKind.u8 1), Operand.const (Value.int IntKind.u8 0)], argTypes := #[31, 5, 5] }, type := 3, pos := "outright.go:106", after := #[{ on := 18, ground := Ground.data }, { on := 17, ground := Ground.chain }, { on := 15, ground := Ground.guard }], guard := some (15, true) }) rfl (fun K hK => ?_) AllReadyH.nil
      go_simp
      refine (bcount_any n w0 _ _ _).mono ?_
      rintro e w31 ⟨rfl, h1⟩
      refine hK.out _ _ ?_ (fun hHeld => ?_)
      · (try dsimp only); (refine keep2 pa pq ?_; repeat (first | exact Below.refl _ _ | assumption | refine bl_drew ?_ | refine bl_new ?_ (Nat.le_refl _) | refine bl_then ?_ (by assumption)))
      clear hK K
      try simp only [Act.put, List.setIfInBounds_toArray, List.set_cons_zero, List.set_cons_succ]
      refine wpAnyH_take (i := 20) (oi := { dst := some 72, op := Op.binOp BinOp.eql 3 (Operand.tmp 69) (Operand.tmp 71) 3, type := 4, pos := "outright.go:106", after := #[{ on := 17, ground := Ground.data }, { on := 19, ground := Ground.data }, { on := 15, ground := Ground.guard }], guard := some (15, true) }) (v := ?_) rfl (by kernel_rfl) (by kernel_rfl) (by kernel_rfl) (fun _ _ _ h => h) (Or.inl ⟨by rfl, ?_⟩) (by assumption) ?_
      rotate_left
      · (intro w hSw; (try dsimp only at hSw); go_simp; try (with_reducible rfl))
      try simp only [Act.put, List.setIfInBounds_toArray, List.set_cons_zero, List.set_cons_succ]
      refine wpAnyH_take (i := 21) (oi := { dst := some 73, op := Op.pick (Operand.tmp 67) (Operand.tmp 72) (Operand.const (Value.bool false)), type := 4, pos := "outright.go:106", after := #[{ on := 15, ground := Ground.data }, { on := 20, ground := Ground.data }], guard := none }) (v := ?_) rfl (by kernel_rfl) (by kernel_rfl) (by kernel_rfl) (fun _ _ _ h => h) (Or.inl ⟨by rfl, ?_⟩) (by assumption) ?_
      rotate_left
      · (intro w hSw; (try dsimp only at hSw); go_simp; try (with_reducible rfl))
      try simp only [Act.put, List.setIfInBounds_toArray, List.set_cons_zero, List.set_cons_succ]
      refine wpAnyH_take (i := 22) (oi := { dst := some 74, op := Op.move (Operand.tmp 73), type := 4, pos := "outright.go:106", after := #[{ on := 21, ground := Ground.data }, { on := 19, ground := Ground.chain }], guard := none }) (v := ?_) rfl (by kernel_rfl) (by kernel_rfl) (by kernel_rfl) (fun _ _ _ h => h) (Or.inl ⟨by rfl, ?_⟩) (by assumption) ?_
      rotate_left
      · (intro w hSw; (try dsimp only at hSw); go_simp; try (with_reducible rfl))
      try simp only [Act.put, List.setIfInBounds_toArray, List.set_cons_zero, List.set_cons_succ]
      refine wpAnyH_take (i := 23) (oi := { dst := some 75, op := Op.load 31 (Operand.tmp 8), type := 31, pos := "outright.go:106", after := #[{ on := 22, ground := Ground.guard }], guard := some (22, true) }) (v := ?_) rfl (by kernel_rfl) (by kernel_rfl) (by kernel_rfl) (fun _ _ _ h => h) (Or.inl ⟨by rfl, ?_⟩) (by assumption) ?_
      rotate_left
      · (intro w hSw; (try dsimp only at hSw); go_simp; try (with_reducible rfl))
      try simp only [Act.put, List.setIfInBounds_toArray, List.set_cons_zero, List.set_cons_succ]
      refine wpAnyH_take (i := 24) (oi := { dst := some 76, op := Op.move (Operand.tmp 7), type := 5, pos := "outright.go:106", after := #[{ on := 22, ground := Ground.guard }], guard := some (22, true) }) (v := ?_) rfl (by kernel_rfl) (by kernel_rfl) (by kernel_rfl) (fun _ _ _ h => h) (Or.inl ⟨by rfl, ?_⟩) (by assumption) ?_
      rotate_left
      · (intro w hSw; (try dsimp only at hSw); go_simp; try (with_reducible rfl))
      try simp only [Act.put, List.setIfInBounds_toArray, List.set_cons_zero, List.set_cons_succ]
      refine wpAnyH_take (i := 28) (oi := { dst := some 80, op := Op.load 31 (Operand.tmp 3), type := 31, pos := "outright.go:106", after := #[{ on := 22, ground := Ground.guard }], guard := some (22, true) }) (v := ?_) rfl (by kernel_rfl) (by kernel_rfl) (by kernel_rfl) (fun _ _ _ h => h) (Or.inl ⟨by rfl, ?_⟩) (by assumption) ?_
      rotate_left
      · (intro w hSw; (try dsimp only at hSw); go_simp; try (with_reducible rfl))
      try simp only [Act.put, List.setIfInBounds_toArray, List.set_cons_zero, List.set_cons_succ]
      refine wpAnyH_take (i := 29) (oi := { dst := some 81, op := Op.move (Operand.tmp 7), type := 5, pos := "outright.go:106", after := #[{ on := 22, ground := Ground.guard }], guard := some (22, true) }) (v := ?_) rfl (by kernel_rfl) (by kernel_rfl) (by kernel_rfl) (fun _ _ _ h => h) (Or.inl ⟨by rfl, ?_⟩) (by assumption) ?_
      rotate_left
      · (intro w hSw; (try dsimp only at hSw); go_simp; try (with_reducible rfl))
      try simp only [Act.put, List.setIfInBounds_toArray, List.set_cons_zero, List.set_cons_succ]
      refine wpAnyH_ready (rs := [25]) (by kernel_rfl) (by simp) ?_
      refine AllReadyH.cons (o := { dst := some 77, op := Op.call { callee := Callee.value (Operand.func 25), args := #[Operand.tmp 76], argTypes := #[5] }, type := 5, pos := "outright.go:106", after := #[{ on := 24, ground := Ground.data }, { on := 22, ground := Ground.chain }, { on := 22, ground := Ground.guard }], guard := some (22, true) }) rfl (fun K hK => ?_) AllReadyH.nil
      go_simp
      refine (color_any _ x0 x1 _).mono ?_
      rintro e w31 ⟨rfl, rfl⟩
      rw [HC.out]
      refine hK.out _ _ ?_ (fun hHeld => ?_)
      · (try dsimp only); (refine keep2 pa pq ?_; repeat (first | exact Below.refl _ _ | assumption | refine bl_drew ?_ | refine bl_new ?_ (Nat.le_refl _) | refine bl_then ?_ (by assumption)))
      clear hK K
      try simp only [Act.put, List.setIfInBounds_toArray, List.set_cons_zero, List.set_cons_succ]
      refine wpAnyH_take (i := 26) (oi := { dst := some 78, op := Op.binOp BinOp.sub 5 (Operand.const (Value.int IntKind.u8 1)) (Operand.tmp 77) 5, type := 5, pos := "outright.go:106", after := #[{ on := 25, ground := Ground.data }, { on := 22, ground := Ground.guard }], guard := some (22, true) }) (v := ?_) rfl (by kernel_rfl) (by kernel_rfl) (by kernel_rfl) (fun _ _ _ h => h) (Or.inl ⟨by rfl, ?_⟩) (by assumption) ?_
      rotate_left
      · (intro w hSw; (try dsimp only at hSw); go_simp; try (with_reducible rfl))
      try simp only [Act.put, List.setIfInBounds_toArray, List.set_cons_zero, List.set_cons_succ]
      refine wpAnyH_ready (rs := [27]) (by kernel_rfl) (by simp) ?_
      refine AllReadyH.cons (o := { dst := some 79, op := Op.call { callee := Callee.value (Operand.func 12), args := #[Operand.tmp 75, Operand.tmp 78, Operand.const (Value.int IntKind.u8 0)], argTypes := #[31, 5, 5] }, type := 23, pos := "outright.go:106", after := #[{ on := 23, ground := Ground.data }, { on := 26, ground := Ground.data }, { on := 25, ground := Ground.chain }, { on := 22, ground := Ground.guard }], guard := some (22, true) }) rfl (fun K hK => ?_) AllReadyH.nil
      go_simp
      refine (of_any m mOk _ _ _).mono ?_
      rintro e w31 ⟨rfl, h1⟩
      rw [HD.out]
      refine hK.out _ _ ?_ (fun hHeld => ?_)
      · (try dsimp only); (refine keep2 pa pq ?_; repeat (first | exact Below.refl _ _ | assumption | refine bl_drew ?_ | refine bl_new ?_ (Nat.le_refl _) | refine bl_then ?_ (by assumption)))
      clear hK K
      try simp only [Act.put, List.setIfInBounds_toArray, List.set_cons_zero, List.set_cons_succ]
      refine wpAnyH_ready (rs := [30]) (by kernel_rfl) (by simp) ?_
      refine AllReadyH.cons (o := { dst := some 82, op := Op.call { callee := Callee.value (Operand.func 25), args := #[Operand.tmp 81], argTypes := #[5] }, type := 5, pos := "outright.go:106", after := #[{ on := 29, ground := Ground.data }, { on := 27, ground := Ground.chain }, { on := 22, ground := Ground.guard }], guard := some (22, true) }) rfl (fun K hK => ?_) AllReadyH.nil
      go_simp
      refine (color_any _ x0 x1 _).mono ?_
      rintro e w31 ⟨rfl, rfl⟩
      rw [HC.out]
      refine hK.out _ _ ?_ (fun hHeld => ?_)
      · (try dsimp only); (refine keep2 pa pq ?_; repeat (first | exact Below.refl _ _ | assumption | refine bl_drew ?_ | refine bl_new ?_ (Nat.le_refl _) | refine bl_then ?_ (by assumption)))
      clear hK K
      try simp only [Act.put, List.setIfInBounds_toArray, List.set_cons_zero, List.set_cons_succ]
      refine wpAnyH_take (i := 31) (oi := { dst := some 83, op := Op.binOp BinOp.sub 5 (Operand.const (Value.int IntKind.u8 1)) (Operand.tmp 82) 5, type := 5, pos := "outright.go:106", after := #[{ on := 30, ground := Ground.data }, { on := 22, ground := Ground.guard }], guard := some (22, true) }) (v := ?_) rfl (by kernel_rfl) (by kernel_rfl) (by kernel_rfl) (fun _ _ _ h => h) (Or.inl ⟨by rfl, ?_⟩) (by assumption) ?_
      rotate_left
      · (intro w hSw; (try dsimp only at hSw); go_simp; try (with_reducible rfl))
      try simp only [Act.put, List.setIfInBounds_toArray, List.set_cons_zero, List.set_cons_succ]
      refine wpAnyH_ready (rs := [32]) (by kernel_rfl) (by simp) ?_
      refine AllReadyH.cons (o := { dst := some 84, op := Op.call { callee := Callee.value (Operand.func 12), args := #[Operand.tmp 80, Operand.tmp 83, Operand.const (Value.int IntKind.u8 0)], argTypes := #[31, 5, 5] }, type := 23, pos := "outright.go:106", after := #[{ on := 28, ground := Ground.data }, { on := 31, ground := Ground.data }, { on := 30, ground := Ground.chain }, { on := 22, ground := Ground.guard }], guard := some (22, true) }) rfl (fun K hK => ?_) AllReadyH.nil
      go_simp
      refine (of_any n w0 _ _ _).mono ?_
      rintro e w31 ⟨rfl, h1⟩
      refine hK.out _ _ ?_ (fun hHeld => ?_)
      · (try dsimp only); (refine keep2 pa pq ?_; repeat (first | exact Below.refl _ _ | assumption | refine bl_drew ?_ | refine bl_new ?_ (Nat.le_refl _) | refine bl_then ?_ (by assumption)))
      clear hK K
      try simp only [Act.put, List.setIfInBounds_toArray, List.set_cons_zero, List.set_cons_succ]
      refine wpAnyH_take (i := 33) (oi := { dst := some 85, op := Op.binOp BinOp.eql 23 (Operand.tmp 79) (Operand.tmp 84) 23, type := 4, pos := "outright.go:106", after := #[{ on := 27, ground := Ground.data }, { on := 32, ground := Ground.data }, { on := 22, ground := Ground.guard }], guard := some (22, true) }) (v := ?_) rfl (by kernel_rfl) (by kernel_rfl) (by kernel_rfl) (fun _ _ _ h => h) (Or.inl ⟨by rfl, ?_⟩) (by assumption) ?_
      rotate_left
      · (intro w hSw; (try dsimp only at hSw); go_simp; try (with_reducible rfl))
      try simp only [Act.put, List.setIfInBounds_toArray, List.set_cons_zero, List.set_cons_succ]
      refine wpAnyH_take (i := 34) (oi := { dst := some 86, op := Op.pick (Operand.tmp 74) (Operand.tmp 85) (Operand.const (Value.bool false)), type := 4, pos := "outright.go:106", after := #[{ on := 22, ground := Ground.data }, { on := 33, ground := Ground.data }], guard := none }) (v := ?_) rfl (by kernel_rfl) (by kernel_rfl) (by kernel_rfl) (fun _ _ _ h => h) (Or.inl ⟨by rfl, ?_⟩) (by assumption) ?_
      rotate_left
      · (intro w hSw; (try dsimp only at hSw); go_simp; try (with_reducible rfl))
      try simp only [Act.put, List.setIfInBounds_toArray, List.set_cons_zero, List.set_cons_succ]
      refine wpAnyH_take (i := 35) (oi := { dst := some 6, op := Op.assign (Operand.tmp 86), type := 4, pos := "outright.go:106", after := #[{ on := 34, ground := Ground.data }, { on := 32, ground := Ground.chain }, { on := 0, ground := Ground.phase }, { on := 1, ground := Ground.phase }, { on := 2, ground := Ground.phase }, { on := 3, ground := Ground.phase }, { on := 4, ground := Ground.phase }, { on := 5, ground := Ground.phase }, { on := 6, ground := Ground.phase }, { on := 7, ground := Ground.phase }, { on := 8, ground := Ground.phase }, { on := 9, ground := Ground.phase }, { on := 10, ground := Ground.phase }, { on := 11, ground := Ground.phase }, { on := 12, ground := Ground.phase }, { on := 13, ground := Ground.phase }, { on := 14, ground := Ground.phase }, { on := 15, ground := Ground.phase }, { on := 16, ground := Ground.phase }, { on := 17, ground := Ground.phase }, { on := 18, ground := Ground.phase }, { on := 19, ground := Ground.phase }, { on := 20, ground := Ground.phase }, { on := 21, ground := Ground.phase }, { on := 22, ground := Ground.phase }, { on := 23, ground := Ground.phase }, { on := 24, ground := Ground.phase }, { on := 25, ground := Ground.phase }, { on := 26, ground := Ground.phase }, { on := 27, ground := Ground.phase }, { on := 28, ground := Ground.phase }, { on := 29, ground := Ground.phase }, { on := 30, ground := Ground.phase }, { on := 31, ground := Ground.phase }, { on := 32, ground := Ground.phase }, { on := 33, ground := Ground.phase }, { on := 34, ground := Ground.phase }], guard := none }) (v := ?_) rfl (by kernel_rfl) (by kernel_rfl) (by kernel_rfl) (fun _ _ _ h => h) (Or.inl ⟨by rfl, ?_⟩) (by assumption) ?_
      rotate_left
      · (intro w hSw; (try dsimp only at hSw); go_simp; try (with_reducible rfl))
      try simp only [Act.put, List.setIfInBounds_toArray, List.set_cons_zero, List.set_cons_succ]
      refine wpAnyH_done (by kernel_rfl) ?_ _
      go_wp2_with fail
      go_meet
      exact ⟨rfl, by repeat (first | exact Below.refl _ _ | assumption | refine bl_drew ?_ | refine bl_then ?_ (by assumption))⟩
    case rest =>
      obtain ⟨rfl, hq⟩ := hcut
      have hb := hb.trans (hq.mono hb.size)
      go_wp2
      go_ret
      exact ⟨rfl, hb⟩

set_option maxRecDepth 100000 in
set_option maxHeartbeats 2000000 in
theorem moved_1 (n : Nat → Int) (a1 a2 x : Int) (w0 : PosOk n) (hX : atN n a1 = x) (x0 : 0 ≤ x) (x1 : x ≤ 255) (hx : x ≠ 0) (hc : colI x = 1) (t0 : 0 ≤ a2) (t1 : a2 ≤ 63) (ht : atN n a2 = 0) (hne : a1 ≠ a2) (w : World) (hT : Tab w) :
    Calls Tryd.prog 8 #[.agg (posA n), .int .i64 a1, .int .i64 a2] w fun e w' => e = .returned (.bool true) ∧ Below w.heap.size w w' := by
  obtain ⟨f0, f1, hB⟩ := at_sq n a1 (by rw [hX]; exact hx)
  obtain ⟨m, hm⟩ : ∃ m, putN (putN n a1 0) a2 x = m := ⟨_, rfl⟩
  have mOk : PosOk m := by rw [← hm]; exact (w0.put a1 0 (by decide) (by decide)).put a2 x x0 x1
  have HC := hideIt hc
  have HM : Hid (putB (clearB (ofN n 1 (kndI x)) a1) a2 = ofN m 1 (kndI x)) := by
    have h := of_moved_yes n a1 a2 f0 f1 t0 (by omega) hne hB ht 1 (kndI x) (by rw [hX, ← hc]; exact want_put (by rw [← hX]; exact hB))
    rw [hX, hm] at h; exact h
  have HC0 : Hid (cntB (ofN m 0 0) = cntB (ofN n 0 0)) := by
    have h := cnt_moved n a1 a2 f0 f1 t0 (by omega) hne hB ht 0 0
    rw [hX, hm] at h; exact h
  have HC1 : Hid (cntB (ofN m 1 0) = cntB (ofN n 1 0)) := by
    have h := cnt_moved n a1 a2 f0 f1 t0 (by omega) hne hB ht 1 0
    rw [hX, hm] at h; exact h
  have HD : Hid (ofN m 0 0 = ofN n 0 0) := by
    have h := of_moved_no n a1 a2 f0 f1 t0 (by omega) hne hB ht 0 0 (want_col hB (by rw [hX, hc]; decide))
    rw [hX, hm] at h; exact h
  have HX := hideIt hX
  have HT := hideIt ht
  have HPM := hideIt hm
  have ex : (x == 0) = false := beq_eq_false_iff_ne.2 hx
  have ef : (a1 == a2) = false := beq_eq_false_iff_ne.2 hne
  have u1 : IntKind.u8.wrap 1 = 1 := by decide
  have u0 : IntKind.u8.wrap 0 = 0 := by decide
  obtain ⟨X, hX0⟩ : ∃ X, w.alloc (.cells (posA n) 31) = X := ⟨_, rfl⟩
  obtain ⟨p0, hb⟩ := box1 w n X hX0
  have HX0 := hideIt hX0
  have hT := hT.below hb (Nat.le_refl _)
  have hzp := zeroPos
  clear hX ht hm hX0 hx hc hne hB
  go_enter Tryd.func8, Tryd.ntmps8
  go_wp2_with (rw [HX0.out])
  refine (awake_any _ hT).mono ?_
  rintro e w1 ⟨rfl, h1⟩
  have p0 := p0.below h1 p0.lt
  have hb := hb.trans (h1.mono hb.size)
  clear h1 hT
  obtain ⟨i0, r0⟩ := p0.rules
  go_wp2_with fail
  refine (at_any n w0 a1 _).mono ?_
  rw [HX.out]
  rintro e w2 ⟨rfl, h1⟩
  have p0 := p0.below h1 p0.lt
  have hb := hb.trans (h1.mono hb.size)
  clear h1 i0 r0
  obtain ⟨i0, r0⟩ := p0.rules
  go_wp2_with fail
  refine (at_any n w0 a2 _).mono ?_
  rw [HT.out]
  rintro e w3 ⟨rfl, h1⟩
  have p0 := p0.below h1 p0.lt
  have hb := hb.trans (h1.mono hb.size)
  clear h1 i0 r0
  obtain ⟨i0, r0⟩ := p0.rules
  go_wp2_with fail
  refine (bput_any n a1 0 (by decide) (by decide) _).mono ?_
  rintro e w4 ⟨rfl, h1⟩
  have p0 := p0.below h1 p0.lt
  have hb := hb.trans (h1.mono hb.size)
  clear h1 i0 r0
  go_wp2_with fail
  refine (bput_any (putN n a1 0) a2 x x0 x1 _).mono ?_
  rw [HPM.out]
  rintro e Z ⟨rfl, h1⟩
  have p0 := p0.below h1 p0.lt
  have hb := hb.trans (h1.mono hb.size)
  clear h1
  obtain ⟨V, hV⟩ : ∃ V, (Z.alloc (.cells (posA zeroN) 31)).setRow Z.heap.size (posA m) = V := ⟨_, rfl⟩
  have hV2 : Z.alloc (.cells (posA m) 31) = V := by rw [← hV, World.setRow_alloc_new]
  have pa : PosAt V w.heap.size n := by rw [← hV2]; exact p0.alloc _
  obtain ⟨q, hq⟩ : ∃ q, Z.heap.size = q := ⟨_, rfl⟩
  have pq : PosAt V q m := by rw [← hV2, ← hq]; exact PosAt.new Z m
  have hb : Below w.heap.size w V := by rw [← hV2]; exact hb.alloc hb.size _
  have HV := hideIt hV
  have HQ := hideIt hq
  clear hV hV2 hq p0
  go_upto_region 7 with (rw [HV.out, HQ.out])
  clear HV HQ
  go_cut [9] (fun s9 wx => s9 = .int .u64 (u (ofN m 1 (kndI x))) ∧ Below V.heap.size V wx)
  case first =>
    refine wp_region_held_drew (S := (fun W => (IsPos W w.heap.size ∧ rowOf W w.heap.size = posA n) ∧ (IsPos W q ∧ rowOf W q = posA m) ∧ Below V.heap.size V W)) (by kernel_rfl) ?_ (fun hHeld => ?_)
    · (try dsimp only); (refine keep2 pa pq ?_; repeat (first | exact Below.refl _ _ | assumption | refine bl_drew ?_ | refine bl_new ?_ (Nat.le_refl _) | refine bl_then ?_ (by assumption)))
    refine wpAnyH_take (i := 0) (oi := { dst := some 42, op := Op.load 31 (Operand.tmp 3), type := 31, pos := "outright.go:105", after := #[], guard := none }) (v := ?_) rfl (by kernel_rfl) (by kernel_rfl) (by kernel_rfl) (fun _ _ _ h => h) (Or.inl ⟨by rfl, ?_⟩) (by assumption) ?_
    rotate_left
    · (intro w hSw; (try dsimp only at hSw); go_simp; try (with_reducible rfl))
    try simp only [Act.put, List.setIfInBounds_toArray, List.set_cons_zero, List.set_cons_succ]
    refine wpAnyH_take (i := 1) (oi := { dst := some 43, op := Op.move (Operand.tmp 7), type := 5, pos := "outright.go:105", after := #[], guard := none }) (v := ?_) rfl (by kernel_rfl) (by kernel_rfl) (by kernel_rfl) (fun _ _ _ h => h) (Or.inl ⟨by rfl, ?_⟩) (by assumption) ?_
    rotate_left
    · (intro w hSw; (try dsimp only at hSw); go_simp; try (with_reducible rfl))
    try simp only [Act.put, List.setIfInBounds_toArray, List.set_cons_zero, List.set_cons_succ]
    refine wpAnyH_take (i := 3) (oi := { dst := some 45, op := Op.move (Operand.tmp 7), type := 5, pos := "outright.go:105", after := #[], guard := none }) (v := ?_) rfl (by kernel_rfl) (by kernel_rfl) (by kernel_rfl) (fun _ _ _ h => h) (Or.inl ⟨by rfl, ?_⟩) (by assumption) ?_
    rotate_left
    · (intro w hSw; (try dsimp only at hSw); go_simp; try (with_reducible rfl))
    try simp only [Act.put, List.setIfInBounds_toArray, List.set_cons_zero, List.set_cons_succ]
    refine wpAnyH_take (i := 6) (oi := { dst := some 48, op := Op.move (Operand.tmp 1), type := 3, pos := "outright.go:105", after := #[], guard := none }) (v := ?_) rfl (by kernel_rfl) (by kernel_rfl) (by kernel_rfl) (fun _ _ _ h => h) (Or.inl ⟨by rfl, ?_⟩) (by assumption) ?_
    rotate_left
    · (intro w hSw; (try dsimp only at hSw); go_simp; try (with_reducible rfl))
    try simp only [Act.put, List.setIfInBounds_toArray, List.set_cons_zero, List.set_cons_succ]
    refine wpAnyH_take (i := 8) (oi := { dst := some 50, op := Op.move (Operand.tmp 2), type := 3, pos := "outright.go:105", after := #[], guard := none }) (v := ?_) rfl (by kernel_rfl) (by kernel_rfl) (by kernel_rfl) (fun _ _ _ h => h) (Or.inl ⟨by rfl, ?_⟩) (by assumption) ?_
    rotate_left
    · (intro w hSw; (try dsimp only at hSw); go_simp; try (with_reducible rfl))
    try simp only [Act.put, List.setIfInBounds_toArray, List.set_cons_zero, List.set_cons_succ]
    refine wpAnyH_ready (rs := [2]) (by kernel_rfl) (by simp) ?_
    refine AllReadyH.cons (o := { dst := some 44, op := Op.call { callee := Callee.value (Operand.func 25), args := #[Operand.tmp 43], argTypes := #[5] }, type := 5, pos := "outright.go:105", after := #[{ on := 1, ground := Ground.data }], guard := none }) rfl (fun K hK => ?_) AllReadyH.nil
    go_simp
    refine (color_any _ x0 x1 _).mono ?_
    rintro e w31 ⟨rfl, rfl⟩
    rw [HC.out]
    refine hK.out _ _ ?_ (fun hHeld => ?_)
    · (try dsimp only); (refine keep2 pa pq ?_; repeat (first | exact Below.refl _ _ | assumption | refine bl_drew ?_ | refine bl_new ?_ (Nat.le_refl _) | refine bl_then ?_ (by assumption)))
    clear hK K
    try simp only [Act.put, List.setIfInBounds_toArray, List.set_cons_zero, List.set_cons_succ]
    refine wpAnyH_ready (rs := [4]) (by kernel_rfl) (by simp) ?_
    refine AllReadyH.cons (o := { dst := some 46, op := Op.call { callee := Callee.value (Operand.func 26), args := #[Operand.tmp 45], argTypes := #[5] }, type := 5, pos := "outright.go:105", after := #[{ on := 3, ground := Ground.data }, { on := 2, ground := Ground.chain }], guard := none }) rfl (fun K hK => ?_) AllReadyH.nil
    go_simp
    refine (kind_any _ x0 x1 _).mono ?_
    rintro e w31 ⟨rfl, rfl⟩
    refine hK.out _ _ ?_ (fun hHeld => ?_)
    · (try dsimp only); (refine keep2 pa pq ?_; repeat (first | exact Below.refl _ _ | assumption | refine bl_drew ?_ | refine bl_new ?_ (Nat.le_refl _) | refine bl_then ?_ (by assumption)))
    clear hK K
    try simp only [Act.put, List.setIfInBounds_toArray, List.set_cons_zero, List.set_cons_succ]
    refine wpAnyH_ready (rs := [5]) (by kernel_rfl) (by simp) ?_
    refine AllReadyH.cons (o := { dst := some 47, op := Op.call { callee := Callee.value (Operand.func 12), args := #[Operand.tmp 42, Operand.tmp 44, Operand.tmp 46], argTypes := #[31, 5, 5] }, type := 23, pos := "outright.go:105", after := #[{ on := 0, ground := Ground.data }, { on := 2, ground := Ground.data }, { on := 4, ground := Ground.data }, { on := 4, ground := Ground.chain }], guard := none }) rfl (fun K hK => ?_) AllReadyH.nil
    go_simp
    refine (of_any n w0 _ _ _).mono ?_
    rintro e w31 ⟨rfl, h1⟩
    refine hK.out _ _ ?_ (fun hHeld => ?_)
    · (try dsimp only); (refine keep2 pa pq ?_; repeat (first | exact Below.refl _ _ | assumption | refine bl_drew ?_ | refine bl_new ?_ (Nat.le_refl _) | refine bl_then ?_ (by assumption)))
    clear hK K
    try simp only [Act.put, List.setIfInBounds_toArray, List.set_cons_zero, List.set_cons_succ]
    refine wpAnyH_ready (rs := [7]) (by kernel_rfl) (by simp) ?_
    refine AllReadyH.cons (o := { dst := some 49, op := Op.call { callee := Callee.value (Operand.func 30), args := #[Operand.tmp 47, Operand.tmp 48], argTypes := #[23, 3] }, type := 23, pos := "outright.go:105", after := #[{ on := 5, ground := Ground.data }, { on := 6, ground := Ground.data }, { on := 5, ground := Ground.chain }], guard := none }) rfl (fun K hK => ?_) AllReadyH.nil
    go_simp
    refine (clear_any (ofN n 1 (kndI x)) rfl a1 _).mono ?_
    rintro e w31 ⟨rfl, rfl⟩
    refine hK.out _ _ ?_ (fun hHeld => ?_)
    · (try dsimp only); (refine keep2 pa pq ?_; repeat (first | exact Below.refl _ _ | assumption | refine bl_drew ?_ | refine bl_new ?_ (Nat.le_refl _) | refine bl_then ?_ (by assumption)))
    clear hK K
    try simp only [Act.put, List.setIfInBounds_toArray, List.set_cons_zero, List.set_cons_succ]
    refine wpAnyH_ready (rs := [9]) (by kernel_rfl) (by simp) ?_
    refine AllReadyH.cons (o := { dst := some 51, op := Op.call { callee := Callee.value (Operand.func 29), args := #[Operand.tmp 49, Operand.tmp 50], argTypes := #[23, 3] }, type := 23, pos := "outright.go:105", after := #[{ on := 7, ground := Ground.data }, { on := 8, ground := Ground.data }, { on := 7, ground := Ground.chain }], guard := none }) rfl (fun K hK => ?_) AllReadyH.nil
    go_simp
    refine (put_any (clearB (ofN n 1 (kndI x)) a1) rfl a2 _).mono ?_
    rintro e w31 ⟨rfl, rfl⟩
    rw [HM.out]
    refine hK.out _ _ ?_ (fun hHeld => ?_)
    · (try dsimp only); (refine keep2 pa pq ?_; repeat (first | exact Below.refl _ _ | assumption | refine bl_drew ?_ | refine bl_new ?_ (Nat.le_refl _) | refine bl_then ?_ (by assumption)))
    clear hK K
    try simp only [Act.put, List.setIfInBounds_toArray, List.set_cons_zero, List.set_cons_succ]
    refine wpAnyH_take (i := 10) (oi := { dst := some 9, op := Op.assign (Operand.tmp 51), type := 23, pos := "outright.go:105", after := #[{ on := 9, ground := Ground.data }, { on := 9, ground := Ground.chain }, { on := 0, ground := Ground.phase }, { on := 1, ground := Ground.phase }, { on := 2, ground := Ground.phase }, { on := 3, ground := Ground.phase }, { on := 4, ground := Ground.phase }, { on := 5, ground := Ground.phase }, { on := 6, ground := Ground.phase }, { on := 7, ground := Ground.phase }, { on := 8, ground := Ground.phase }, { on := 9, ground := Ground.phase }], guard := none }) (v := ?_) rfl (by kernel_rfl) (by kernel_rfl) (by kernel_rfl) (fun _ _ _ h => h) (Or.inl ⟨by rfl, ?_⟩) (by assumption) ?_
    rotate_left
    · (intro w hSw; (try dsimp only at hSw); go_simp; try (with_reducible rfl))
    try simp only [Act.put, List.setIfInBounds_toArray, List.set_cons_zero, List.set_cons_succ]
    refine wpAnyH_done (by kernel_rfl) ?_ _
    go_wp2_with fail
    go_meet
    exact ⟨rfl, by repeat (first | exact Below.refl _ _ | assumption | refine bl_drew ?_ | refine bl_then ?_ (by assumption))⟩
  case rest =>
    obtain ⟨rfl, hq⟩ := hcut
    have pa := pa.below hq pa.lt
    have pq := pq.below hq pq.lt
    have hb := hb.trans (hq.mono hb.size)
    clear hq
    go_upto_region 8 with fail
    go_cut [6] (fun s6 wx => s6 = .bool true ∧ Below wc.heap.size wc wx)
    case first =>
      refine wp_region_held_drew (S := (fun W => (IsPos W w.heap.size ∧ rowOf W w.heap.size = posA n) ∧ (IsPos W q ∧ rowOf W q = posA m) ∧ Below wc.heap.size wc W)) (by kernel_rfl) ?_ (fun hHeld => ?_)
      · (try dsimp only); (refine keep2 pa pq ?_; repeat (first | exact Below.refl _ _ | assumption | refine bl_drew ?_ | refine bl_new ?_ (Nat.le_refl _) | refine bl_then ?_ (by assumption)))
      refine wpAnyH_take (i := 0) (oi := { dst := some 52, op := Op.load 31 (Operand.tmp 8), type := 31, pos := "outright.go:106", after := #[], guard := none }) (v := ?_) rfl (by kernel_rfl) (by kernel_rfl) (by kernel_rfl) (fun _ _ _ h => h) (Or.inl ⟨by rfl, ?_⟩) (by assumption) ?_
      rotate_left
      · (intro w hSw; (try dsimp only at hSw); go_simp; try (with_reducible rfl))
      try simp only [Act.put, List.setIfInBounds_toArray, List.set_cons_zero, List.set_cons_succ]
      refine wpAnyH_take (i := 1) (oi := { dst := some 53, op := Op.move (Operand.tmp 7), type := 5, pos := "outright.go:106", after := #[], guard := none }) (v := ?_) rfl (by kernel_rfl) (by kernel_rfl) (by kernel_rfl) (fun _ _ _ h => h) (Or.inl ⟨by rfl, ?_⟩) (by assumption) ?_
      rotate_left
      · (intro w hSw; (try dsimp only at hSw); go_simp; try (with_reducible rfl))
      try simp only [Act.put, List.setIfInBounds_toArray, List.set_cons_zero, List.set_cons_succ]
      refine wpAnyH_take (i := 3) (oi := { dst := some 55, op := Op.move (Operand.tmp 7), type := 5, pos := "outright.go:106", after := #[], guard := none }) (v := ?_) rfl (by kernel_rfl) (by kernel_rfl) (by kernel_rfl) (fun _ _ _ h => h) (Or.inl ⟨by rfl, ?_⟩) (by assumption) ?_
      rotate_left
      · (intro w hSw; (try dsimp only at hSw); go_simp; try (with_reducible rfl))
      try simp only [Act.put, List.setIfInBounds_toArray, List.set_cons_zero, List.set_cons_succ]
      refine wpAnyH_take (i := 6) (oi := { dst := some 58, op := Op.move (Operand.tmp 9), type := 23, pos := "outright.go:106", after := #[], guard := none }) (v := ?_) rfl (by kernel_rfl) (by kernel_rfl) (by kernel_rfl) (fun _ _ _ h => h) (Or.inl ⟨by rfl, ?_⟩) (by assumption) ?_
      rotate_left
      · (intro w hSw; (try dsimp only at hSw); go_simp; try (with_reducible rfl))
      try simp only [Act.put, List.setIfInBounds_toArray, List.set_cons_zero, List.set_cons_succ]
      refine wpAnyH_ready (rs := [2]) (by kernel_rfl) (by simp) ?_
      refine AllReadyH.cons (o := { dst := some 54, op := Op.call { callee := Callee.value (Operand.func 25), args := #[Operand.tmp 53], argTypes := #[5] }, type := 5, pos := "outright.go:106", after := #[{ on := 1, ground := Ground.data }], guard := none }) rfl (fun K hK => ?_) AllReadyH.nil
      go_simp
      refine (color_any _ x0 x1 _).mono ?_
      rintro e w31 ⟨rfl, rfl⟩
      rw [HC.out]
      refine hK.out _ _ ?_ (fun hHeld => ?_)
      · (try dsimp only); (refine keep2 pa pq ?_; repeat (first | exact Below.refl _ _ | assumption | refine bl_drew ?_ | refine bl_new ?_ (Nat.le_refl _) | refine bl_then ?_ (by assumption)))
      clear hK K
      try simp only [Act.put, List.setIfInBounds_toArray, List.set_cons_zero, List.set_cons_succ]
      refine wpAnyH_ready (rs := [4]) (by kernel_rfl) (by simp) ?_
      refine AllReadyH.cons (o := { dst := some 56, op := Op.call { callee := Callee.value (Operand.func 26), args := #[Operand.tmp 55], argTypes := #[5] }, type := 5, pos := "outright.go:106", after := #[{ on := 3, ground := Ground.data }, { on := 2, ground := Ground.chain }], guard := none }) rfl (fun K hK => ?_) AllReadyH.nil
      go_simp
      refine (kind_any _ x0 x1 _).mono ?_
      rintro e w31 ⟨rfl, rfl⟩
      refine hK.out _ _ ?_ (fun hHeld => ?_)
      · (try dsimp only); (refine keep2 pa pq ?_; repeat (first | exact Below.refl _ _ | assumption | refine bl_drew ?_ | refine bl_new ?_ (Nat.le_refl _) | refine bl_then ?_ (by assumption)))
      clear hK K
      try simp only [Act.put, List.setIfInBounds_toArray, List.set_cons_zero, List.set_cons_succ]
      refine wpAnyH_ready (rs := [5]) (by kernel_rfl) (by simp) ?_
      refine AllReadyH.cons (o := { dst := some 57, op := Op.call { callee := Callee.value (Operand.func 12), args := #[Operand.tmp 52, Operand.tmp 54, Operand.tmp 56], argTypes := #[31, 5, 5] }, type := 23, pos := "outright.go:106", after := #[{ on := 0, ground := Ground.data }, { on := 2, ground := Ground.data }, { on := 4, ground := Ground.data }, { on := 4, ground := Ground.chain }], guard := none }) rfl (fun K hK => ?_) AllReadyH.nil
      go_simp
      refine (of_any m mOk _ _ _).mono ?_
      rintro e w31 ⟨rfl, h1⟩
      refine hK.out _ _ ?_ (fun hHeld => ?_)
      · (try dsimp only); (refine keep2 pa pq ?_; repeat (first | exact Below.refl _ _ | assumption | refine bl_drew ?_ | refine bl_new ?_ (Nat.le_refl _) | refine bl_then ?_ (by assumption)))
      clear hK K
      try simp only [Act.put, List.setIfInBounds_toArray, List.set_cons_zero, List.set_cons_succ]
      refine wpAnyH_take (i := 7) (oi := { dst := some 59, op := Op.binOp BinOp.eql 23 (Operand.tmp 57) (Operand.tmp 58) 23, type := 4, pos := "outright.go:106", after := #[{ on := 5, ground := Ground.data }, { on := 6, ground := Ground.data }], guard := none }) (v := ?_) rfl (by kernel_rfl) (by kernel_rfl) (by kernel_rfl) (fun _ _ _ h => h) (Or.inl ⟨by rfl, ?_⟩) (by assumption) ?_
      rotate_left
      · (intro w hSw; (try dsimp only at hSw); go_simp; try (with_reducible rfl))
      try simp only [Act.put, List.setIfInBounds_toArray, List.set_cons_zero, List.set_cons_succ]
      refine wpAnyH_take (i := 8) (oi := { dst := some 60, op := Op.move (Operand.tmp 59), type := 4, pos := "outright.go:106", after := #[{ on := 7, ground := Ground.data }, { on := 5, ground := Ground.chain }], guard := none }) (v := ?_) rfl (by kernel_rfl) (by kernel_rfl) (by kernel_rfl) (fun _ _ _ h => h) (Or.inl ⟨by rfl, ?_⟩) (by assumption) ?_
      rotate_left
      · (intro w hSw; (try dsimp only at hSw); go_simp; try (with_reducible rfl))
      try simp only [Act.put, List.setIfInBounds_toArray, List.set_cons_zero, List.set_cons_succ]
      refine wpAnyH_take (i := 9) (oi := { dst := some 61, op := Op.load 31 (Operand.tmp 8), type := 31, pos := "outright.go:106", after := #[{ on := 8, ground := Ground.guard }], guard := some (8, true) }) (v := ?_) rfl (by kernel_rfl) (by kernel_rfl) (by kernel_rfl) (fun _ _ _ h => h) (Or.inl ⟨by rfl, ?_⟩) (by assumption) ?_
      rotate_left
      · (intro w hSw; (try dsimp only at hSw); go_simp; try (with_reducible rfl))
      try simp only [Act.put, List.setIfInBounds_toArray, List.set_cons_zero, List.set_cons_succ]
      refine wpAnyH_take (i := 11) (oi := { dst := some 63, op := Op.load 31 (Operand.tmp 3), type := 31, pos := "outright.go:106", after := #[{ on := 8, ground := Ground.guard }], guard := some (8, true) }) (v := ?_) rfl (by kernel_rfl) (by kernel_rfl) (by kernel_rfl) (fun _ _ _ h => h) (Or.inl ⟨by rfl, ?_⟩) (by assumption) ?_
      rotate_left
      · (intro w hSw; (try dsimp only at hSw); go_simp; try (with_reducible rfl))
      try simp only [Act.put, List.setIfInBounds_toArray, List.set_cons_zero, List.set_cons_succ]
      refine wpAnyH_ready (rs := [10]) (by kernel_rfl) (by simp) ?_
      refine AllReadyH.cons (o := { dst := some 62, op := Op.call { callee := Callee.value (Operand.func 17), args := #[Operand.tmp 61, Operand.const (Value.int IntKind.u8 0), Operand.const (Value.int IntKind.u8 0)], argTypes := #[31, 5, 5] }, type := 3, pos := "outright.go:106", after := #[{ on := 9, ground := Ground.data }, { on := 8, ground := Ground.chain }, { on := 8, ground := Ground.guard }], guard := some (8, true) }) rfl (fun K hK => ?_) AllReadyH.nil
      go_simp
      refine (bcount_any m mOk _ _ _).mono ?_
      rintro e w31 ⟨rfl, h1⟩
      rw [HC0.out]
      refine hK.out _ _ ?_ (fun hHeld => ?_)
      · (try dsimp only); (refine keep2 pa pq ?_; repeat (first | exact Below.refl _ _ | assumption | refine bl_drew ?_ | refine bl_new ?_ (Nat.le_refl _) | refine bl_then ?_ (by assumption)))
      clear hK K
      try simp only [Act.put, List.setIfInBounds_toArray, List.set_cons_zero, List.set_cons_succ]
      refine wpAnyH_ready (rs := [12]) (by kernel_rfl) (by simp) ?_
      refine AllReadyH.cons (o := { dst := some 64, op := Op.call { callee := Callee.value (Operand.func 17), args := #[Operand.tmp 63, Operand.const (Value.int IntKind.u8 0), Operand.const (Value.int IntKind.u8 0)], argTypes := #[31, 5, 5] }, type := 3, pos := "outright.go:106", after := #[{ on := 11, ground := Ground.data }, { on := 10, ground := Ground.chain }, { on := 8, ground := Ground.guard }], guard := some (8, true) }) rfl (fun K hK => ?_) AllReadyH.nil
      go_simp
      refine (bcount_any n w0 _ _ _).mono ?_
      rintro e w31 ⟨rfl, h1⟩
      refine hK.out _ _ ?_ (fun hHeld => ?_)
      · (try dsimp only); (refine keep2 pa pq ?_; repeat (first | exact Below.refl _ _ | assumption | refine bl_drew ?_ | refine bl_new ?_ (Nat.le_refl _) | refine bl_then ?_ (by assumption)))
      clear hK K
      try simp only [Act.put, List.setIfInBounds_toArray, List.set_cons_zero, List.set_cons_succ]
      refine wpAnyH_take (i := 13) (oi := { dst := some 65, op := Op.binOp BinOp.eql 3 (Operand.tmp 62) (Operand.tmp 64) 3, type := 4, pos := "outright.go:106", after := #[{ on := 10, ground := Ground.data }, { on := 12, ground := Ground.data }, { on := 8, ground := Ground.guard }], guard := some (8, true) }) (v := ?_) rfl (by kernel_rfl) (by kernel_rfl) (by kernel_rfl) (fun _ _ _ h => h) (Or.inl ⟨by rfl, ?_⟩) (by assumption) ?_
      rotate_left
      · (intro w hSw; (try dsimp only at hSw); go_simp; try (with_reducible rfl))
      try simp only [Act.put, List.setIfInBounds_toArray, List.set_cons_zero, List.set_cons_succ]
      refine wpAnyH_take (i := 14) (oi := { dst := some 66, op := Op.pick (Operand.tmp 60) (Operand.tmp 65) (Operand.const (Value.bool false)), type := 4, pos := "outright.go:106", after := #[{ on := 8, ground := Ground.data }, { on := 13, ground := Ground.data }], guard := none }) (v := ?_) rfl (by kernel_rfl) (by kernel_rfl) (by kernel_rfl) (fun _ _ _ h => h) (Or.inl ⟨by rfl, ?_⟩) (by assumption) ?_
      rotate_left
      · (intro w hSw; (try dsimp only at hSw); go_simp; try (with_reducible rfl))
      try simp only [Act.put, List.setIfInBounds_toArray, List.set_cons_zero, List.set_cons_succ]
      refine wpAnyH_take (i := 15) (oi := { dst := some 67, op := Op.move (Operand.tmp 66), type := 4, pos := "outright.go:106", after := #[{ on := 14, ground := Ground.data }, { on := 12, ground := Ground.chain }], guard := none }) (v := ?_) rfl (by kernel_rfl) (by kernel_rfl) (by kernel_rfl) (fun _ _ _ h => h) (Or.inl ⟨by rfl, ?_⟩) (by assumption) ?_
      rotate_left
      · (intro w hSw; (try dsimp only at hSw); go_simp; try (with_reducible rfl))
      try simp only [Act.put, List.setIfInBounds_toArray, List.set_cons_zero, List.set_cons_succ]
      refine wpAnyH_take (i := 16) (oi := { dst := some 68, op := Op.load 31 (Operand.tmp 8), type := 31, pos := "outright.go:106", after := #[{ on := 15, ground := Ground.guard }], guard := some (15, true) }) (v := ?_) rfl (by kernel_rfl) (by kernel_rfl) (by kernel_rfl) (fun _ _ _ h => h) (Or.inl ⟨by rfl, ?_⟩) (by assumption) ?_
      rotate_left
      · (intro w hSw; (try dsimp only at hSw); go_simp; try (with_reducible rfl))
      try simp only [Act.put, List.setIfInBounds_toArray, List.set_cons_zero, List.set_cons_succ]
      refine wpAnyH_take (i := 18) (oi := { dst := some 70, op := Op.load 31 (Operand.tmp 3), type := 31, pos := "outright.go:106", after := #[{ on := 15, ground := Ground.guard }], guard := some (15, true) }) (v := ?_) rfl (by kernel_rfl) (by kernel_rfl) (by kernel_rfl) (fun _ _ _ h => h) (Or.inl ⟨by rfl, ?_⟩) (by assumption) ?_
      rotate_left
      · (intro w hSw; (try dsimp only at hSw); go_simp; try (with_reducible rfl))
      try simp only [Act.put, List.setIfInBounds_toArray, List.set_cons_zero, List.set_cons_succ]
      refine wpAnyH_ready (rs := [17]) (by kernel_rfl) (by simp) ?_
      refine AllReadyH.cons (o := { dst := some 69, op := Op.call { callee := Callee.value (Operand.func 17), args := #[Operand.tmp 68, Operand.const (Value.int IntKind.u8 1), Operand.const (Value.int IntKind.u8 0)], argTypes := #[31, 5, 5] }, type := 3, pos := "outright.go:106", after := #[{ on := 16, ground := Ground.data }, { on := 15, ground := Ground.chain }, { on := 15, ground := Ground.guard }], guard := some (15, true) }) rfl (fun K hK => ?_) AllReadyH.nil
      go_simp
      refine (bcount_any m mOk _ _ _).mono ?_
      rintro e w31 ⟨rfl, h1⟩
      rw [HC1.out]
      refine hK.out _ _ ?_ (fun hHeld => ?_)
      · (try dsimp only); (refine keep2 pa pq ?_; repeat (first | exact Below.refl _ _ | assumption | refine bl_drew ?_ | refine bl_new ?_ (Nat.le_refl _) | refine bl_then ?_ (by assumption)))
      clear hK K
      try simp only [Act.put, List.setIfInBounds_toArray, List.set_cons_zero, List.set_cons_succ]
      refine wpAnyH_ready (rs := [19]) (by kernel_rfl) (by simp) ?_
      refine AllReadyH.cons (o := { dst := some 71, op := Op.call { callee := Callee.value (Operand.func 17), args := #[Operand.tmp 70, Operand.const (Value.int IntKind.u8 1), Operand.const (Value.int IntKind.u8 0)], argTypes := #[31, 5, 5] }, type := 3, pos := "outright.go:106", after := #[{ on := 18, ground := Ground.data }, { on := 17, ground := Ground.chain }, { on := 15, ground := Ground.guard }], guard := some (15, true) }) rfl (fun K hK => ?_) AllReadyH.nil
      go_simp
      refine (bcount_any n w0 _ _ _).mono ?_
      rintro e w31 ⟨rfl, h1⟩
      refine hK.out _ _ ?_ (fun hHeld => ?_)
      · (try dsimp only); (refine keep2 pa pq ?_; repeat (first | exact Below.refl _ _ | assumption | refine bl_drew ?_ | refine bl_new ?_ (Nat.le_refl _) | refine bl_then ?_ (by assumption)))
      clear hK K
      try simp only [Act.put, List.setIfInBounds_toArray, List.set_cons_zero, List.set_cons_succ]
      refine wpAnyH_take (i := 20) (oi := { dst := some 72, op := Op.binOp BinOp.eql 3 (Operand.tmp 69) (Operand.tmp 71) 3, type := 4, pos := "outright.go:106", after := #[{ on := 17, ground := Ground.data }, { on := 19, ground := Ground.data }, { on := 15, ground := Ground.guard }], guard := some (15, true) }) (v := ?_) rfl (by kernel_rfl) (by kernel_rfl) (by kernel_rfl) (fun _ _ _ h => h) (Or.inl ⟨by rfl, ?_⟩) (by assumption) ?_
      rotate_left
      · (intro w hSw; (try dsimp only at hSw); go_simp; try (with_reducible rfl))
      try simp only [Act.put, List.setIfInBounds_toArray, List.set_cons_zero, List.set_cons_succ]
      refine wpAnyH_take (i := 21) (oi := { dst := some 73, op := Op.pick (Operand.tmp 67) (Operand.tmp 72) (Operand.const (Value.bool false)), type := 4, pos := "outright.go:106", after := #[{ on := 15, ground := Ground.data }, { on := 20, ground := Ground.data }], guard := none }) (v := ?_) rfl (by kernel_rfl) (by kernel_rfl) (by kernel_rfl) (fun _ _ _ h => h) (Or.inl ⟨by rfl, ?_⟩) (by assumption) ?_
      rotate_left
      · (intro w hSw; (try dsimp only at hSw); go_simp; try (with_reducible rfl))
      try simp only [Act.put, List.setIfInBounds_toArray, List.set_cons_zero, List.set_cons_succ]
      refine wpAnyH_take (i := 22) (oi := { dst := some 74, op := Op.move (Operand.tmp 73), type := 4, pos := "outright.go:106", after := #[{ on := 21, ground := Ground.data }, { on := 19, ground := Ground.chain }], guard := none }) (v := ?_) rfl (by kernel_rfl) (by kernel_rfl) (by kernel_rfl) (fun _ _ _ h => h) (Or.inl ⟨by rfl, ?_⟩) (by assumption) ?_
      rotate_left
      · (intro w hSw; (try dsimp only at hSw); go_simp; try (with_reducible rfl))
      try simp only [Act.put, List.setIfInBounds_toArray, List.set_cons_zero, List.set_cons_succ]
      refine wpAnyH_take (i := 23) (oi := { dst := some 75, op := Op.load 31 (Operand.tmp 8), type := 31, pos := "outright.go:106", after := #[{ on := 22, ground := Ground.guard }], guard := some (22, true) }) (v := ?_) rfl (by kernel_rfl) (by kernel_rfl) (by kernel_rfl) (fun _ _ _ h => h) (Or.inl ⟨by rfl, ?_⟩) (by assumption) ?_
      rotate_left
      · (intro w hSw; (try dsimp only at hSw); go_simp; try (with_reducible rfl))
      try simp only [Act.put, List.setIfInBounds_toArray, List.set_cons_zero, List.set_cons_succ]
      refine wpAnyH_take (i := 24) (oi := { dst := some 76, op := Op.move (Operand.tmp 7), type := 5, pos := "outright.go:106", after := #[{ on := 22, ground := Ground.guard }], guard := some (22, true) }) (v := ?_) rfl (by kernel_rfl) (by kernel_rfl) (by kernel_rfl) (fun _ _ _ h => h) (Or.inl ⟨by rfl, ?_⟩) (by assumption) ?_
      rotate_left
      · (intro w hSw; (try dsimp only at hSw); go_simp; try (with_reducible rfl))
      try simp only [Act.put, List.setIfInBounds_toArray, List.set_cons_zero, List.set_cons_succ]
      refine wpAnyH_take (i := 28) (oi := { dst := some 80, op := Op.load 31 (Operand.tmp 3), type := 31, pos := "outright.go:106", after := #[{ on := 22, ground := Ground.guard }], guard := some (22, true) }) (v := ?_) rfl (by kernel_rfl) (by kernel_rfl) (by kernel_rfl) (fun _ _ _ h => h) (Or.inl ⟨by rfl, ?_⟩) (by assumption) ?_
      rotate_left
      · (intro w hSw; (try dsimp only at hSw); go_simp; try (with_reducible rfl))
      try simp only [Act.put, List.setIfInBounds_toArray, List.set_cons_zero, List.set_cons_succ]
      refine wpAnyH_take (i := 29) (oi := { dst := some 81, op := Op.move (Operand.tmp 7), type := 5, pos := "outright.go:106", after := #[{ on := 22, ground := Ground.guard }], guard := some (22, true) }) (v := ?_) rfl (by kernel_rfl) (by kernel_rfl) (by kernel_rfl) (fun _ _ _ h => h) (Or.inl ⟨by rfl, ?_⟩) (by assumption) ?_
      rotate_left
      · (intro w hSw; (try dsimp only at hSw); go_simp; try (with_reducible rfl))
      try simp only [Act.put, List.setIfInBounds_toArray, List.set_cons_zero, List.set_cons_succ]
      refine wpAnyH_ready (rs := [25]) (by kernel_rfl) (by simp) ?_
      refine AllReadyH.cons (o := { dst := some 77, op := Op.call { callee := Callee.value (Operand.func 25), args := #[Operand.tmp 76], argTypes := #[5] }, type := 5, pos := "outright.go:106", after := #[{ on := 24, ground := Ground.data }, { on := 22, ground := Ground.chain }, { on := 22, ground := Ground.guard }], guard := some (22, true) }) rfl (fun K hK => ?_) AllReadyH.nil
      go_simp
      refine (color_any _ x0 x1 _).mono ?_
      rintro e w31 ⟨rfl, rfl⟩
      rw [HC.out]
      refine hK.out _ _ ?_ (fun hHeld => ?_)
      · (try dsimp only); (refine keep2 pa pq ?_; repeat (first | exact Below.refl _ _ | assumption | refine bl_drew ?_ | refine bl_new ?_ (Nat.le_refl _) | refine bl_then ?_ (by assumption)))
      clear hK K
      try simp only [Act.put, List.setIfInBounds_toArray, List.set_cons_zero, List.set_cons_succ]
      refine wpAnyH_take (i := 26) (oi := { dst := some 78, op := Op.binOp BinOp.sub 5 (Operand.const (Value.int IntKind.u8 1)) (Operand.tmp 77) 5, type := 5, pos := "outright.go:106", after := #[{ on := 25, ground := Ground.data }, { on := 22, ground := Ground.guard }], guard := some (22, true) }) (v := ?_) rfl (by kernel_rfl) (by kernel_rfl) (by kernel_rfl) (fun _ _ _ h => h) (Or.inl ⟨by rfl, ?_⟩) (by assumption) ?_
      rotate_left
      · (intro w hSw; (try dsimp only at hSw); go_simp; try (with_reducible rfl))
      try simp only [Act.put, List.setIfInBounds_toArray, List.set_cons_zero, List.set_cons_succ]
      refine wpAnyH_ready (rs := [27]) (by kernel_rfl) (by simp) ?_
      refine AllReadyH.cons (o := { dst := some 79, op := Op.call { callee := Callee.value (Operand.func 12), args := #[Operand.tmp 75, Operand.tmp 78, Operand.const (Value.int IntKind.u8 0)], argTypes := #[31, 5, 5] }, type := 23, pos := "outright.go:106", after := #[{ on := 23, ground := Ground.data }, { on := 26, ground := Ground.data }, { on := 25, ground := Ground.chain }, { on := 22, ground := Ground.guard }], guard := some (22, true) }) rfl (fun K hK => ?_) AllReadyH.nil
      go_simp
      refine (of_any m mOk _ _ _).mono ?_
      rintro e w31 ⟨rfl, h1⟩
      rw [HD.out]
      refine hK.out _ _ ?_ (fun hHeld => ?_)
      · (try dsimp only); (refine keep2 pa pq ?_; repeat (first | exact Below.refl _ _ | assumption | refine bl_drew ?_ | refine bl_new ?_ (Nat.le_refl _) | refine bl_then ?_ (by assumption)))
      clear hK K
      try simp only [Act.put, List.setIfInBounds_toArray, List.set_cons_zero, List.set_cons_succ]
      refine wpAnyH_ready (rs := [30]) (by kernel_rfl) (by simp) ?_
      refine AllReadyH.cons (o := { dst := some 82, op := Op.call { callee := Callee.value (Operand.func 25), args := #[Operand.tmp 81], argTypes := #[5] }, type := 5, pos := "outright.go:106", after := #[{ on := 29, ground := Ground.data }, { on := 27, ground := Ground.chain }, { on := 22, ground := Ground.guard }], guard := some (22, true) }) rfl (fun K hK => ?_) AllReadyH.nil
      go_simp
      refine (color_any _ x0 x1 _).mono ?_
      rintro e w31 ⟨rfl, rfl⟩
      rw [HC.out]
      refine hK.out _ _ ?_ (fun hHeld => ?_)
      · (try dsimp only); (refine keep2 pa pq ?_; repeat (first | exact Below.refl _ _ | assumption | refine bl_drew ?_ | refine bl_new ?_ (Nat.le_refl _) | refine bl_then ?_ (by assumption)))
      clear hK K
      try simp only [Act.put, List.setIfInBounds_toArray, List.set_cons_zero, List.set_cons_succ]
      refine wpAnyH_take (i := 31) (oi := { dst := some 83, op := Op.binOp BinOp.sub 5 (Operand.const (Value.int IntKind.u8 1)) (Operand.tmp 82) 5, type := 5, pos := "outright.go:106", after := #[{ on := 30, ground := Ground.data }, { on := 22, ground := Ground.guard }], guard := some (22, true) }) (v := ?_) rfl (by kernel_rfl) (by kernel_rfl) (by kernel_rfl) (fun _ _ _ h => h) (Or.inl ⟨by rfl, ?_⟩) (by assumption) ?_
      rotate_left
      · (intro w hSw; (try dsimp only at hSw); go_simp; try (with_reducible rfl))
      try simp only [Act.put, List.setIfInBounds_toArray, List.set_cons_zero, List.set_cons_succ]
      refine wpAnyH_ready (rs := [32]) (by kernel_rfl) (by simp) ?_
      refine AllReadyH.cons (o := { dst := some 84, op := Op.call { callee := Callee.value (Operand.func 12), args := #[Operand.tmp 80, Operand.tmp 83, Operand.const (Value.int IntKind.u8 0)], argTypes := #[31, 5, 5] }, type := 23, pos := "outright.go:106", after := #[{ on := 28, ground := Ground.data }, { on := 31, ground := Ground.data }, { on := 30, ground := Ground.chain }, { on := 22, ground := Ground.guard }], guard := some (22, true) }) rfl (fun K hK => ?_) AllReadyH.nil
      go_simp
      refine (of_any n w0 _ _ _).mono ?_
      rintro e w31 ⟨rfl, h1⟩
      refine hK.out _ _ ?_ (fun hHeld => ?_)
      · (try dsimp only); (refine keep2 pa pq ?_; repeat (first | exact Below.refl _ _ | assumption | refine bl_drew ?_ | refine bl_new ?_ (Nat.le_refl _) | refine bl_then ?_ (by assumption)))
      clear hK K
      try simp only [Act.put, List.setIfInBounds_toArray, List.set_cons_zero, List.set_cons_succ]
      refine wpAnyH_take (i := 33) (oi := { dst := some 85, op := Op.binOp BinOp.eql 23 (Operand.tmp 79) (Operand.tmp 84) 23, type := 4, pos := "outright.go:106", after := #[{ on := 27, ground := Ground.data }, { on := 32, ground := Ground.data }, { on := 22, ground := Ground.guard }], guard := some (22, true) }) (v := ?_) rfl (by kernel_rfl) (by kernel_rfl) (by kernel_rfl) (fun _ _ _ h => h) (Or.inl ⟨by rfl, ?_⟩) (by assumption) ?_
      rotate_left
      · (intro w hSw; (try dsimp only at hSw); go_simp; try (with_reducible rfl))
      try simp only [Act.put, List.setIfInBounds_toArray, List.set_cons_zero, List.set_cons_succ]
      refine wpAnyH_take (i := 34) (oi := { dst := some 86, op := Op.pick (Operand.tmp 74) (Operand.tmp 85) (Operand.const (Value.bool false)), type := 4, pos := "outright.go:106", after := #[{ on := 22, ground := Ground.data }, { on := 33, ground := Ground.data }], guard := none }) (v := ?_) rfl (by kernel_rfl) (by kernel_rfl) (by kernel_rfl) (fun _ _ _ h => h) (Or.inl ⟨by rfl, ?_⟩) (by assumption) ?_
      rotate_left
      · (intro w hSw; (try dsimp only at hSw); go_simp; try (with_reducible rfl))
      try simp only [Act.put, List.setIfInBounds_toArray, List.set_cons_zero, List.set_cons_succ]
      refine wpAnyH_take (i := 35) (oi := { dst := some 6, op := Op.assign (Operand.tmp 86), type := 4, pos := "outright.go:106", after := #[{ on := 34, ground := Ground.data }, { on := 32, ground := Ground.chain }, { on := 0, ground := Ground.phase }, { on := 1, ground := Ground.phase }, { on := 2, ground := Ground.phase }, { on := 3, ground := Ground.phase }, { on := 4, ground := Ground.phase }, { on := 5, ground := Ground.phase }, { on := 6, ground := Ground.phase }, { on := 7, ground := Ground.phase }, { on := 8, ground := Ground.phase }, { on := 9, ground := Ground.phase }, { on := 10, ground := Ground.phase }, { on := 11, ground := Ground.phase }, { on := 12, ground := Ground.phase }, { on := 13, ground := Ground.phase }, { on := 14, ground := Ground.phase }, { on := 15, ground := Ground.phase }, { on := 16, ground := Ground.phase }, { on := 17, ground := Ground.phase }, { on := 18, ground := Ground.phase }, { on := 19, ground := Ground.phase }, { on := 20, ground := Ground.phase }, { on := 21, ground := Ground.phase }, { on := 22, ground := Ground.phase }, { on := 23, ground := Ground.phase }, { on := 24, ground := Ground.phase }, { on := 25, ground := Ground.phase }, { on := 26, ground := Ground.phase }, { on := 27, ground := Ground.phase }, { on := 28, ground := Ground.phase }, { on := 29, ground := Ground.phase }, { on := 30, ground := Ground.phase }, { on := 31, ground := Ground.phase }, { on := 32, ground := Ground.phase }, { on := 33, ground := Ground.phase }, { on := 34, ground := Ground.phase }], guard := none }) (v := ?_) rfl (by kernel_rfl) (by kernel_rfl) (by kernel_rfl) (fun _ _ _ h => h) (Or.inl ⟨by rfl, ?_⟩) (by assumption) ?_
      rotate_left
      · (intro w hSw; (try dsimp only at hSw); go_simp; try (with_reducible rfl))
      try simp only [Act.put, List.setIfInBounds_toArray, List.set_cons_zero, List.set_cons_succ]
      refine wpAnyH_done (by kernel_rfl) ?_ _
      go_wp2_with fail
      go_meet
      exact ⟨rfl, by repeat (first | exact Below.refl _ _ | assumption | refine bl_drew ?_ | refine bl_then ?_ (by assumption))⟩
    case rest =>
      obtain ⟨rfl, hq⟩ := hcut
      have hb := hb.trans (hq.mono hb.size)
      go_wp2
      go_ret
      exact ⟨rfl, hb⟩

theorem boardMoved_walk (n : Nat → Int) (a1 : Int) (a2 : Int) (w0 : PosOk n) (_w1 : (Lit.int .i64 a1).wf = true) (_w2 : (Lit.int .i64 a2).wf = true) (w : World) (hT : Tab w) :
    Calls Tryd.prog 8 #[.agg (posA n), .int .i64 a1, .int .i64 a2] w fun e w' => e = .returned (.bool true) ∧ Below w.heap.size w w' := by
  by_cases hx : atN n a1 = 0
  · exact moved_no n a1 a2 w0 (.inl hx) w hT
  by_cases h0 : a2 < 0
  · exact moved_no n a1 a2 w0 (.inr (.inl ⟨hx, h0⟩)) w hT
  by_cases h1 : 63 < a2
  · exact moved_no n a1 a2 w0 (.inr (.inr (.inl ⟨hx, by omega, h1⟩))) w hT
  by_cases hy : atN n a2 = 0
  · by_cases he : a1 = a2
    · exact moved_no n a1 a2 w0 (.inr (.inr (.inr (.inr ⟨hx, by omega, by omega, hy, he⟩)))) w hT
    · obtain ⟨y0, y1⟩ := at_bd w0 a1
      rcases col_two (at_sq n a1 hx).2.2 with hc | hc
      · exact moved_0 n a1 a2 _ w0 rfl y0 y1 hx hc (by omega) (by omega) hy he w hT
      · exact moved_1 n a1 a2 _ w0 rfl y0 y1 hx hc (by omega) (by omega) hy he w hT
  · exact moved_no n a1 a2 w0 (.inr (.inr (.inr (.inl ⟨hx, by omega, by omega, hy⟩)))) w hT

end Go.Proofs.YtlobmhhilkmfdaaDoor
