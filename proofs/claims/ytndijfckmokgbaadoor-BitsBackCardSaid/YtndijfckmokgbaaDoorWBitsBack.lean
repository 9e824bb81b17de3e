/- The walk of BitsBack. Lines alike written by gen_back.py. -/
import Derived.Test.YtndijfckmokgbaaDoorAw1
import Derived.Test.YtndijfckmokgbaaDoorBv
import Derived.Test.YtndijfckmokgbaaDoorU4
namespace Go.Proofs.YtndijfckmokgbaaDoor
open Go Go.RowKit

theorem back_facts (b : BitVec 64) (d : Nat) (hd : d < 8) (d' : Int) (hd' : d' = (((d + 4) % 8 : Nat) : Int)) :
    ∃ th k, shiftB b (d : Int) = th ∧ shiftB th d' = k ∧ (u (k &&& ~~~b) != 0) = false ∧ cntB k = cntB th ∧ ∀ x : Int, hasB (b &&& ~~~k) x = true → edgeB (d : Int) x = true := by
  subst hd'
  refine ⟨_, _, rfl, rfl, ?_, ?_, ?_⟩
  · rw [shift_back b d hd]
    have e : (b &&& stays d) &&& ~~~b = 0#64 := by
      apply ext_has; intro s _
      rw [has_andNot, has_and, has_zero]
      cases hasB b (s : Int) <;> simp
    rw [e]; rfl
  · rw [shift_back b d hd, cnt_shift b d hd]
  · intro x hx
    rw [shift_back b d hd] at hx
    have hr : 0 ≤ x ∧ x < 64 := by
      apply Classical.byContradiction; intro hc; rw [hasB_out _ hc] at hx; cases hx
    obtain ⟨n, rfl⟩ := Int.eq_ofNat_of_zero_le hr.1
    exact left_edge b d hd n (by omega) hx

theorem edge_0 (x : Int) (h : edgeB 0 x = true) : ((x / 8 == 7) = true) := by
  simp [edgeB] at h ⊢
  omega
set_option maxHeartbeats 1600000 in
theorem back_0 (b : BitVec 64) (a1 : Int) (hd : (IntKind.u64.wrap a1).tmod 8 = 0) (w : World) (hT : Tab w) :
    Calls Tryd.prog 5 #[.int .u64 (u b), .int .i64 a1] w fun e w' => e = .returned (.bool true) ∧ Below w.heap.size w w' := by
  obtain ⟨th, k, hth, hk, hz, hc, he⟩ := back_facts b 0 (by decide) 4 rfl
  have Hth := hideIt hth
  have Hk := hideIt hk
  have Hc := hideIt hc
  have He := hideIt he
  clear hth hk hc he
  go_enter Tryd.func5, Tryd.ntmps5
  go_wp2_with fail
  refine (awake_any _ hT).mono ?_
  rintro e w1 ⟨rfl, h1⟩
  go_wp2_with fail
  refine (shift_v b _ th Hth.out _).mono ?_
  rintro e w2 ⟨rfl, h2⟩
  have hb := h1.trans (h2.mono h1.size)
  clear h1 h2
  go_wp2_with fail
  refine (shift_v th _ k Hk.out _).mono ?_
  rintro e w3 ⟨rfl, h3⟩
  have hb := hb.trans (h3.mono hb.size)
  clear h3
  go_wp2_with fail
  refine (count_v k _ Hc.out _).mono ?_
  rintro e w' ⟨rfl, rfl⟩
  go_wp2_with fail
  refine (count_v th _ rfl _).mono ?_
  rintro e w' ⟨rfl, rfl⟩
  go_wp2_with fail
  refine (list_any (b &&& ~~~k) rfl _ (hT.below hb (Nat.le_refl _))).mono ?_
  rintro e w4 ⟨v, rfl, hown, h4⟩
  have hb := hb.trans (h4.mono hb.size)
  clear h4
  have hlen := listB_length (b &&& ~~~k)
  have hmem : ∀ (i : Nat) (hi : i < (listB (b &&& ~~~k)).length), hasB (b &&& ~~~k) ((listB (b &&& ~~~k))[i]) = true := fun i hi => (mem_listB _ _).1 (List.getElem_mem hi)
  have HM := hideIt hmem
  clear hmem
  rcases hown.form with ⟨hl, x, c, rfl⟩ | ⟨g, c, rfl, hg0, hg1, hne, hcell, _⟩
  · clear hl
    go_wp2
    refine wp_loop_rounds 1 ?_
    rw [rounds_succ]
    go_wp2
    go_ret
    exact ⟨rfl, hb⟩
  · generalize hl : listB (b &&& ~~~k) = l at *
    clear hl
    go_wp2
    go_loopw [8, 9, 10, 11] (fun i _ _ _ wr => ∃ j : Nat, j ≤ l.length ∧ i = .int .i64 j ∧ Below w4.heap.size w4 wr) (fun i _ _ _ _ => l.length - (intOf i).toNat)
    case atStart => exact ⟨0, by omega, rfl, Below.refl _ _⟩
    case round =>
      obtain ⟨j, hj, rfl, hbel⟩ := hrel
      by_cases hlt : j < l.length
      · have hx : wr.cell? ⟨g, j, none⟩ = some (.int .i64 (l[j])) := (hbel.cell (p := ⟨g, j, none⟩) hg1).trans (hcell j hlt)
        have hm := HM.out j hlt
        generalize l[j] = x at *
        have hr : 0 ≤ x ∧ x < 64 := by
          apply Classical.byContradiction; intro hc; rw [hasB_out _ hc] at hm; cases hm
        have hx0 := hr.1
        have hx1 := hr.2
        have hee := edge_0 x (He.out x hm)
        clear hcell hm hr
        have e1 := hee; clear hee
        all_goals
          go_wp2
          go_quiet (fail)
          go_wp2
          go_roundw
          case rel => exact ⟨j + 1, by omega, by go_num, below_drewN hbel _⟩
          case measure => simp [intOf]; omega
      · go_wp2
        go_ret
        exact ⟨rfl, hb.trans (hbel.mono hb.size)⟩

theorem edge_1 (x : Int) (h : edgeB 1 x = true) : ((x / 8 == 7) = true) ∨ (((x / 8 == 7) = false) ∧ ((x % 8 == 7) = true)) := by
  simp [edgeB] at h ⊢
  omega
set_option maxHeartbeats 1600000 in
theorem back_1 (b : BitVec 64) (a1 : Int) (hd : (IntKind.u64.wrap a1).tmod 8 = 1) (w : World) (hT : Tab w) :
    Calls Tryd.prog 5 #[.int .u64 (u b), .int .i64 a1] w fun e w' => e = .returned (.bool true) ∧ Below w.heap.size w w' := by
  obtain ⟨th, k, hth, hk, hz, hc, he⟩ := back_facts b 1 (by decide) 5 rfl
  have Hth := hideIt hth
  have Hk := hideIt hk
  have Hc := hideIt hc
  have He := hideIt he
  clear hth hk hc he
  go_enter Tryd.func5, Tryd.ntmps5
  go_wp2_with fail
  refine (awake_any _ hT).mono ?_
  rintro e w1 ⟨rfl, h1⟩
  go_wp2_with fail
  refine (shift_v b _ th Hth.out _).mono ?_
  rintro e w2 ⟨rfl, h2⟩
  have hb := h1.trans (h2.mono h1.size)
  clear h1 h2
  go_wp2_with fail
  refine (shift_v th _ k Hk.out _).mono ?_
  rintro e w3 ⟨rfl, h3⟩
  have hb := hb.trans (h3.mono hb.size)
  clear h3
  go_wp2_with fail
  refine (count_v k _ Hc.out _).mono ?_
  rintro e w' ⟨rfl, rfl⟩
  go_wp2_with fail
  refine (count_v th _ rfl _).mono ?_
  rintro e w' ⟨rfl, rfl⟩
  go_wp2_with fail
  refine (list_any (b &&& ~~~k) rfl _ (hT.below hb (Nat.le_refl _))).mono ?_
  rintro e w4 ⟨v, rfl, hown, h4⟩
  have hb := hb.trans (h4.mono hb.size)
  clear h4
  have hlen := listB_length (b &&& ~~~k)
  have hmem : ∀ (i : Nat) (hi : i < (listB (b &&& ~~~k)).length), hasB (b &&& ~~~k) ((listB (b &&& ~~~k))[i]) = true := fun i hi => (mem_listB _ _).1 (List.getElem_mem hi)
  have HM := hideIt hmem
  clear hmem
  rcases hown.form with ⟨hl, x, c, rfl⟩ | ⟨g, c, rfl, hg0, hg1, hne, hcell, _⟩
  · clear hl
    go_wp2
    refine wp_loop_rounds 1 ?_
    rw [rounds_succ]
    go_wp2
    go_ret
    exact ⟨rfl, hb⟩
  · generalize hl : listB (b &&& ~~~k) = l at *
    clear hl
    go_wp2
    go_loopw [8, 9, 10, 11] (fun i _ _ _ wr => ∃ j : Nat, j ≤ l.length ∧ i = .int .i64 j ∧ Below w4.heap.size w4 wr) (fun i _ _ _ _ => l.length - (intOf i).toNat)
    case atStart => exact ⟨0, by omega, rfl, Below.refl _ _⟩
    case round =>
      obtain ⟨j, hj, rfl, hbel⟩ := hrel
      by_cases hlt : j < l.length
      · have hx : wr.cell? ⟨g, j, none⟩ = some (.int .i64 (l[j])) := (hbel.cell (p := ⟨g, j, none⟩) hg1).trans (hcell j hlt)
        have hm := HM.out j hlt
        generalize l[j] = x at *
        have hr : 0 ≤ x ∧ x < 64 := by
          apply Classical.byContradiction; intro hc; rw [hasB_out _ hc] at hm; cases hm
        have hx0 := hr.1
        have hx1 := hr.2
        have hee := edge_1 x (He.out x hm)
        clear hcell hm hr
        rcases hee with e1 | ⟨e1, e2⟩
        all_goals
          go_wp2
          go_quiet (fail)
          go_wp2
          go_roundw
          case rel => exact ⟨j + 1, by omega, by go_num, below_drewN hbel _⟩
          case measure => simp [intOf]; omega
      · go_wp2
        go_ret
        exact ⟨rfl, hb.trans (hbel.mono hb.size)⟩

theorem edge_2 (x : Int) (h : edgeB 2 x = true) : ((x % 8 == 7) = true) := by
  simp [edgeB] at h ⊢
  omega
set_option maxHeartbeats 1600000 in
theorem back_2 (b : BitVec 64) (a1 : Int) (hd : (IntKind.u64.wrap a1).tmod 8 = 2) (w : World) (hT : Tab w) :
    Calls Tryd.prog 5 #[.int .u64 (u b), .int .i64 a1] w fun e w' => e = .returned (.bool true) ∧ Below w.heap.size w w' := by
  obtain ⟨th, k, hth, hk, hz, hc, he⟩ := back_facts b 2 (by decide) 6 rfl
  have Hth := hideIt hth
  have Hk := hideIt hk
  have Hc := hideIt hc
  have He := hideIt he
  clear hth hk hc he
  go_enter Tryd.func5, Tryd.ntmps5
  go_wp2_with fail
  refine (awake_any _ hT).mono ?_
  rintro e w1 ⟨rfl, h1⟩
  go_wp2_with fail
  refine (shift_v b _ th Hth.out _).mono ?_
  rintro e w2 ⟨rfl, h2⟩
  have hb := h1.trans (h2.mono h1.size)
  clear h1 h2
  go_wp2_with fail
  refine (shift_v th _ k Hk.out _).mono ?_
  rintro e w3 ⟨rfl, h3⟩
  have hb := hb.trans (h3.mono hb.size)
  clear h3
  go_wp2_with fail
  refine (count_v k _ Hc.out _).mono ?_
  rintro e w' ⟨rfl, rfl⟩
  go_wp2_with fail
  refine (count_v th _ rfl _).mono ?_
  rintro e w' ⟨rfl, rfl⟩
  go_wp2_with fail
  refine (list_any (b &&& ~~~k) rfl _ (hT.below hb (Nat.le_refl _))).mono ?_
  rintro e w4 ⟨v, rfl, hown, h4⟩
  have hb := hb.trans (h4.mono hb.size)
  clear h4
  have hlen := listB_length (b &&& ~~~k)
  have hmem : ∀ (i : Nat) (hi : i < (listB (b &&& ~~~k)).length), hasB (b &&& ~~~k) ((listB (b &&& ~~~k))[i]) = true := fun i hi => (mem_listB _ _).1 (List.getElem_mem hi)
  have HM := hideIt hmem
  clear hmem
  rcases hown.form with ⟨hl, x, c, rfl⟩ | ⟨g, c, rfl, hg0, hg1, hne, hcell, _⟩
  · clear hl
    go_wp2
    refine wp_loop_rounds 1 ?_
    rw [rounds_succ]
    go_wp2
    go_ret
    exact ⟨rfl, hb⟩
  · generalize hl : listB (b &&& ~~~k) = l at *
    clear hl
    go_wp2
    go_loopw [8, 9, 10, 11] (fun i _ _ _ wr => ∃ j : Nat, j ≤ l.length ∧ i = .int .i64 j ∧ Below w4.heap.size w4 wr) (fun i _ _ _ _ => l.length - (intOf i).toNat)
    case atStart => exact ⟨0, by omega, rfl, Below.refl _ _⟩
    case round =>
      obtain ⟨j, hj, rfl, hbel⟩ := hrel
      by_cases hlt : j < l.length
      · have hx : wr.cell? ⟨g, j, none⟩ = some (.int .i64 (l[j])) := (hbel.cell (p := ⟨g, j, none⟩) hg1).trans (hcell j hlt)
        have hm := HM.out j hlt
        generalize l[j] = x at *
        have hr : 0 ≤ x ∧ x < 64 := by
          apply Classical.byContradiction; intro hc; rw [hasB_out _ hc] at hm; cases hm
        have hx0 := hr.1
        have hx1 := hr.2
        have hee := edge_2 x (He.out x hm)
        clear hcell hm hr
        have e1 := hee; clear hee
        all_goals
          go_wp2
          go_quiet (fail)
          go_wp2
          go_roundw
          case rel => exact ⟨j + 1, by omega, by go_num, below_drewN hbel _⟩
          case measure => simp [intOf]; omega
      · go_wp2
        go_ret
        exact ⟨rfl, hb.trans (hbel.mono hb.size)⟩

theorem edge_3 (x : Int) (h : edgeB 3 x = true) : ((x / 8 == 0) = true) ∨ (((x / 8 == 0) = false) ∧ ((x % 8 == 7) = true)) := by
  simp [edgeB] at h ⊢
  omega
set_option maxHeartbeats 1600000 in
theorem back_3 (b : BitVec 64) (a1 : Int) (hd : (IntKind.u64.wrap a1).tmod 8 = 3) (w : World) (hT : Tab w) :
    Calls Tryd.prog 5 #[.int .u64 (u b), .int .i64 a1] w fun e w' => e = .returned (.bool true) ∧ Below w.heap.size w w' := by
  obtain ⟨th, k, hth, hk, hz, hc, he⟩ := back_facts b 3 (by decide) 7 rfl
  have Hth := hideIt hth
  have Hk := hideIt hk
  have Hc := hideIt hc
  have He := hideIt he
  clear hth hk hc he
  go_enter Tryd.func5, Tryd.ntmps5
  go_wp2_with fail
  refine (awake_any _ hT).mono ?_
  rintro e w1 ⟨rfl, h1⟩
  go_wp2_with fail
  refine (shift_v b _ th Hth.out _).mono ?_
  rintro e w2 ⟨rfl, h2⟩
  have hb := h1.trans (h2.mono h1.size)
  clear h1 h2
  go_wp2_with fail
  refine (shift_v th _ k Hk.out _).mono ?_
  rintro e w3 ⟨rfl, h3⟩
  have hb := hb.trans (h3.mono hb.size)
  clear h3
  go_wp2_with fail
  refine (count_v k _ Hc.out _).mono ?_
  rintro e w' ⟨rfl, rfl⟩
  go_wp2_with fail
  refine (count_v th _ rfl _).mono ?_
  rintro e w' ⟨rfl, rfl⟩
  go_wp2_with fail
  refine (list_any (b &&& ~~~k) rfl _ (hT.below hb (Nat.le_refl _))).mono ?_
  rintro e w4 ⟨v, rfl, hown, h4⟩
  have hb := hb.trans (h4.mono hb.size)
  clear h4
  have hlen := listB_length (b &&& ~~~k)
  have hmem : ∀ (i : Nat) (hi : i < (listB (b &&& ~~~k)).length), hasB (b &&& ~~~k) ((listB (b &&& ~~~k))[i]) = true := fun i hi => (mem_listB _ _).1 (List.getElem_mem hi)
  have HM := hideIt hmem
  clear hmem
  rcases hown.form with ⟨hl, x, c, rfl⟩ | ⟨g, c, rfl, hg0, hg1, hne, hcell, _⟩
  · clear hl
    go_wp2
    refine wp_loop_rounds 1 ?_
    rw [rounds_succ]
    go_wp2
    go_ret
    exact ⟨rfl, hb⟩
  · generalize hl : listB (b &&& ~~~k) = l at *
    clear hl
    go_wp2
    go_loopw [8, 9, 10, 11] (fun i _ _ _ wr => ∃ j : Nat, j ≤ l.length ∧ i = .int .i64 j ∧ Below w4.heap.size w4 wr) (fun i _ _ _ _ => l.length - (intOf i).toNat)
    case atStart => exact ⟨0, by omega, rfl, Below.refl _ _⟩
    case round =>
      obtain ⟨j, hj, rfl, hbel⟩ := hrel
      by_cases hlt : j < l.length
      · have hx : wr.cell? ⟨g, j, none⟩ = some (.int .i64 (l[j])) := (hbel.cell (p := ⟨g, j, none⟩) hg1).trans (hcell j hlt)
        have hm := HM.out j hlt
        generalize l[j] = x at *
        have hr : 0 ≤ x ∧ x < 64 := by
          apply Classical.byContradiction; intro hc; rw [hasB_out _ hc] at hm; cases hm
        have hx0 := hr.1
        have hx1 := hr.2
        have hee := edge_3 x (He.out x hm)
        clear hcell hm hr
        rcases hee with e1 | ⟨e1, e2⟩
        all_goals
          go_wp2
          go_quiet (fail)
          go_wp2
          go_roundw
          case rel => exact ⟨j + 1, by omega, by go_num, below_drewN hbel _⟩
          case measure => simp [intOf]; omega
      · go_wp2
        go_ret
        exact ⟨rfl, hb.trans (hbel.mono hb.size)⟩

theorem edge_4 (x : Int) (h : edgeB 4 x = true) : ((x / 8 == 0) = true) := by
  simp [edgeB] at h ⊢
  omega
set_option maxHeartbeats 1600000 in
theorem back_4 (b : BitVec 64) (a1 : Int) (hd : (IntKind.u64.wrap a1).tmod 8 = 4) (w : World) (hT : Tab w) :
    Calls Tryd.prog 5 #[.int .u64 (u b), .int .i64 a1] w fun e w' => e = .returned (.bool true) ∧ Below w.heap.size w w' := by
  obtain ⟨th, k, hth, hk, hz, hc, he⟩ := back_facts b 4 (by decide) 0 rfl
  have Hth := hideIt hth
  have Hk := hideIt hk
  have Hc := hideIt hc
  have He := hideIt he
  clear hth hk hc he
  go_enter Tryd.func5, Tryd.ntmps5
  go_wp2_with fail
  refine (awake_any _ hT).mono ?_
  rintro e w1 ⟨rfl, h1⟩
  go_wp2_with fail
  refine (shift_v b _ th Hth.out _).mono ?_
  rintro e w2 ⟨rfl, h2⟩
  have hb := h1.trans (h2.mono h1.size)
  clear h1 h2
  go_wp2_with fail
  refine (shift_v th _ k Hk.out _).mono ?_
  rintro e w3 ⟨rfl, h3⟩
  have hb := hb.trans (h3.mono hb.size)
  clear h3
  go_wp2_with fail
  refine (count_v k _ Hc.out _).mono ?_
  rintro e w' ⟨rfl, rfl⟩
  go_wp2_with fail
  refine (count_v th _ rfl _).mono ?_
  rintro e w' ⟨rfl, rfl⟩
  go_wp2_with fail
  refine (list_any (b &&& ~~~k) rfl _ (hT.below hb (Nat.le_refl _))).mono ?_
  rintro e w4 ⟨v, rfl, hown, h4⟩
  have hb := hb.trans (h4.mono hb.size)
  clear h4
  have hlen := listB_length (b &&& ~~~k)
  have hmem : ∀ (i : Nat) (hi : i < (listB (b &&& ~~~k)).length), hasB (b &&& ~~~k) ((listB (b &&& ~~~k))[i]) = true := fun i hi => (mem_listB _ _).1 (List.getElem_mem hi)
  have HM := hideIt hmem
  clear hmem
  rcases hown.form with ⟨hl, x, c, rfl⟩ | ⟨g, c, rfl, hg0, hg1, hne, hcell, _⟩
  · clear hl
    go_wp2
    refine wp_loop_rounds 1 ?_
    rw [rounds_succ]
    go_wp2
    go_ret
    exact ⟨rfl, hb⟩
  · generalize hl : listB (b &&& ~~~k) = l at *
    clear hl
    go_wp2
    go_loopw [8, 9, 10, 11] (fun i _ _ _ wr => ∃ j : Nat, j ≤ l.length ∧ i = .int .i64 j ∧ Below w4.heap.size w4 wr) (fun i _ _ _ _ => l.length - (intOf i).toNat)
    case atStart => exact ⟨0, by omega, rfl, Below.refl _ _⟩
    case round =>
      obtain ⟨j, hj, rfl, hbel⟩ := hrel
      by_cases hlt : j < l.length
      · have hx : wr.cell? ⟨g, j, none⟩ = some (.int .i64 (l[j])) := (hbel.cell (p := ⟨g, j, none⟩) hg1).trans (hcell j hlt)
        have hm := HM.out j hlt
        generalize l[j] = x at *
        have hr : 0 ≤ x ∧ x < 64 := by
          apply Classical.byContradiction; intro hc; rw [hasB_out _ hc] at hm; cases hm
        have hx0 := hr.1
        have hx1 := hr.2
        have hee := edge_4 x (He.out x hm)
        clear hcell hm hr
        have e1 := hee; clear hee
        all_goals
          go_wp2
          go_quiet (fail)
          go_wp2
          go_roundw
          case rel => exact ⟨j + 1, by omega, by go_num, below_drewN hbel _⟩
          case measure => simp [intOf]; omega
      · go_wp2
        go_ret
        exact ⟨rfl, hb.trans (hbel.mono hb.size)⟩

theorem edge_5 (x : Int) (h : edgeB 5 x = true) : ((x / 8 == 0) = true) ∨ (((x / 8 == 0) = false) ∧ ((x % 8 == 0) = true)) := by
  simp [edgeB] at h ⊢
  omega
set_option maxHeartbeats 1600000 in
theorem back_5 (b : BitVec 64) (a1 : Int) (hd : (IntKind.u64.wrap a1).tmod 8 = 5) (w : World) (hT : Tab w) :
    Calls Tryd.prog 5 #[.int .u64 (u b), .int .i64 a1] w fun e w' => e = .returned (.bool true) ∧ Below w.heap.size w w' := by
  obtain ⟨th, k, hth, hk, hz, hc, he⟩ := back_facts b 5 (by decide) 1 rfl
  have Hth := hideIt hth
  have Hk := hideIt hk
  have Hc := hideIt hc
  have He := hideIt he
  clear hth hk hc he
  go_enter Tryd.func5, Tryd.ntmps5
  go_wp2_with fail
  refine (awake_any _ hT).mono ?_
  rintro e w1 ⟨rfl, h1⟩
  go_wp2_with fail
  refine (shift_v b _ th Hth.out _).mono ?_
  rintro e w2 ⟨rfl, h2⟩
  have hb := h1.trans (h2.mono h1.size)
  clear h1 h2
  go_wp2_with fail
  refine (shift_v th _ k Hk.out _).mono ?_
  rintro e w3 ⟨rfl, h3⟩
  have hb := hb.trans (h3.mono hb.size)
  clear h3
  go_wp2_with fail
  refine (count_v k _ Hc.out _).mono ?_
  rintro e w' ⟨rfl, rfl⟩
  go_wp2_with fail
  refine (count_v th _ rfl _).mono ?_
  rintro e w' ⟨rfl, rfl⟩
  go_wp2_with fail
  refine (list_any (b &&& ~~~k) rfl _ (hT.below hb (Nat.le_refl _))).mono ?_
  rintro e w4 ⟨v, rfl, hown, h4⟩
  have hb := hb.trans (h4.mono hb.size)
  clear h4
  have hlen := listB_length (b &&& ~~~k)
  have hmem : ∀ (i : Nat) (hi : i < (listB (b &&& ~~~k)).length), hasB (b &&& ~~~k) ((listB (b &&& ~~~k))[i]) = true := fun i hi => (mem_listB _ _).1 (List.getElem_mem hi)
  have HM := hideIt hmem
  clear hmem
  rcases hown.form with ⟨hl, x, c, rfl⟩ | ⟨g, c, rfl, hg0, hg1, hne, hcell, _⟩
  · clear hl
    go_wp2
    refine wp_loop_rounds 1 ?_
    rw [rounds_succ]
    go_wp2
    go_ret
    exact ⟨rfl, hb⟩
  · generalize hl : listB (b &&& ~~~k) = l at *
    clear hl
    go_wp2
    go_loopw [8, 9, 10, 11] (fun i _ _ _ wr => ∃ j : Nat, j ≤ l.length ∧ i = .int .i64 j ∧ Below w4.heap.size w4 wr) (fun i _ _ _ _ => l.length - (intOf i).toNat)
    case atStart => exact ⟨0, by omega, rfl, Below.refl _ _⟩
    case round =>
      obtain ⟨j, hj, rfl, hbel⟩ := hrel
      by_cases hlt : j < l.length
      · have hx : wr.cell? ⟨g, j, none⟩ = some (.int .i64 (l[j])) := (hbel.cell (p := ⟨g, j, none⟩) hg1).trans (hcell j hlt)
        have hm := HM.out j hlt
        generalize l[j] = x at *
        have hr : 0 ≤ x ∧ x < 64 := by
          apply Classical.byContradiction; intro hc; rw [hasB_out _ hc] at hm; cases hm
        have hx0 := hr.1
        have hx1 := hr.2
        have hee := edge_5 x (He.out x hm)
        clear hcell hm hr
        rcases hee with e1 | ⟨e1, e2⟩
        all_goals
          go_wp2
          go_quiet (fail)
          go_wp2
          go_roundw
          case rel => exact ⟨j + 1, by omega, by go_num, below_drewN hbel _⟩
          case measure => simp [intOf]; omega
      · go_wp2
        go_ret
        exact ⟨rfl, hb.trans (hbel.mono hb.size)⟩

theorem edge_6 (x : Int) (h : edgeB 6 x = true) : ((x % 8 == 0) = true) := by
  simp [edgeB] at h ⊢
  omega
set_option maxHeartbeats 1600000 in
theorem back_6 (b : BitVec 64) (a1 : Int) (hd : (IntKind.u64.wrap a1).tmod 8 = 6) (w : World) (hT : Tab w) :
    Calls Tryd.prog 5 #[.int .u64 (u b), .int .i64 a1] w fun e w' => e = .returned (.bool true) ∧ Below w.heap.size w w' := by
  obtain ⟨th, k, hth, hk, hz, hc, he⟩ := back_facts b 6 (by decide) 2 rfl
  have Hth := hideIt hth
  have Hk := hideIt hk
  have Hc := hideIt hc
  have He := hideIt he
  clear hth hk hc he
  go_enter Tryd.func5, Tryd.ntmps5
  go_wp2_with fail
  refine (awake_any _ hT).mono ?_
  rintro e w1 ⟨rfl, h1⟩
  go_wp2_with fail
  refine (shift_v b _ th Hth.out _).mono ?_
  rintro e w2 ⟨rfl, h2⟩
  have hb := h1.trans (h2.mono h1.size)
  clear h1 h2
  go_wp2_with fail
  refine (shift_v th _ k Hk.out _).mono ?_
  rintro e w3 ⟨rfl, h3⟩
  have hb := hb.trans (h3.mono hb.size)
  clear h3
  go_wp2_with fail
  refine (count_v k _ Hc.out _).mono ?_
  rintro e w' ⟨rfl, rfl⟩
  go_wp2_with fail
  refine (count_v th _ rfl _).mono ?_
  rintro e w' ⟨rfl, rfl⟩
  go_wp2_with fail
  refine (list_any (b &&& ~~~k) rfl _ (hT.below hb (Nat.le_refl _))).mono ?_
  rintro e w4 ⟨v, rfl, hown, h4⟩
  have hb := hb.trans (h4.mono hb.size)
  clear h4
  have hlen := listB_length (b &&& ~~~k)
  have hmem : ∀ (i : Nat) (hi : i < (listB (b &&& ~~~k)).length), hasB (b &&& ~~~k) ((listB (b &&& ~~~k))[i]) = true := fun i hi => (mem_listB _ _).1 (List.getElem_mem hi)
  have HM := hideIt hmem
  clear hmem
  rcases hown.form with ⟨hl, x, c, rfl⟩ | ⟨g, c, rfl, hg0, hg1, hne, hcell, _⟩
  · clear hl
    go_wp2
    refine wp_loop_rounds 1 ?_
    rw [rounds_succ]
    go_wp2
    go_ret
    exact ⟨rfl, hb⟩
  · generalize hl : listB (b &&& ~~~k) = l at *
    clear hl
    go_wp2
    go_loopw [8, 9, 10, 11] (fun i _ _ _ wr => ∃ j : Nat, j ≤ l.length ∧ i = .int .i64 j ∧ Below w4.heap.size w4 wr) (fun i _ _ _ _ => l.length - (intOf i).toNat)
    case atStart => exact ⟨0, by omega, rfl, Below.refl _ _⟩
    case round =>
      obtain ⟨j, hj, rfl, hbel⟩ := hrel
      by_cases hlt : j < l.length
      · have hx : wr.cell? ⟨g, j, none⟩ = some (.int .i64 (l[j])) := (hbel.cell (p := ⟨g, j, none⟩) hg1).trans (hcell j hlt)
        have hm := HM.out j hlt
        generalize l[j] = x at *
        have hr : 0 ≤ x ∧ x < 64 := by
          apply Classical.byContradiction; intro hc; rw [hasB_out _ hc] at hm; cases hm
        have hx0 := hr.1
        have hx1 := hr.2
        have hee := edge_6 x (He.out x hm)
        clear hcell hm hr
        have e1 := hee; clear hee
        all_goals
          go_wp2
          go_quiet (fail)
          go_wp2
          go_roundw
          case rel => exact ⟨j + 1, by omega, by go_num, below_drewN hbel _⟩
          case measure => simp [intOf]; omega
      · go_wp2
        go_ret
        exact ⟨rfl, hb.trans (hbel.mono hb.size)⟩

theorem edge_7 (x : Int) (h : edgeB 7 x = true) : ((x / 8 == 7) = true) ∨ (((x / 8 == 7) = false) ∧ ((x % 8 == 0) = true)) := by
  simp [edgeB] at h ⊢
  omega
set_option maxHeartbeats 1600000 in
theorem back_7 (b : BitVec 64) (a1 : Int) (hd : (IntKind.u64.wrap a1).tmod 8 = 7) (w : World) (hT : Tab w) :
    Calls Tryd.prog 5 #[.int .u64 (u b), .int .i64 a1] w fun e w' => e = .returned (.bool true) ∧ Below w.heap.size w w' := by
  obtain ⟨th, k, hth, hk, hz, hc, he⟩ := back_facts b 7 (by decide) 3 rfl
  have Hth := hideIt hth
  have Hk := hideIt hk
  have Hc := hideIt hc
  have He := hideIt he
  clear hth hk hc he
  go_enter Tryd.func5, Tryd.ntmps5
  go_wp2_with fail
  refine (awake_any _ hT).mono ?_
  rintro e w1 ⟨rfl, h1⟩
  go_wp2_with fail
  refine (shift_v b _ th Hth.out _).mono ?_
  rintro e w2 ⟨rfl, h2⟩
  have hb := h1.trans (h2.mono h1.size)
  clear h1 h2
  go_wp2_with fail
  refine (shift_v th _ k Hk.out _).mono ?_
  rintro e w3 ⟨rfl, h3⟩
  have hb := hb.trans (h3.mono hb.size)
  clear h3
  go_wp2_with fail
  refine (count_v k _ Hc.out _).mono ?_
  rintro e w' ⟨rfl, rfl⟩
  go_wp2_with fail
  refine (count_v th _ rfl _).mono ?_
  rintro e w' ⟨rfl, rfl⟩
  go_wp2_with fail
  refine (list_any (b &&& ~~~k) rfl _ (hT.below hb (Nat.le_refl _))).mono ?_
  rintro e w4 ⟨v, rfl, hown, h4⟩
  have hb := hb.trans (h4.mono hb.size)
  clear h4
  have hlen := listB_length (b &&& ~~~k)
  have hmem : ∀ (i : Nat) (hi : i < (listB (b &&& ~~~k)).length), hasB (b &&& ~~~k) ((listB (b &&& ~~~k))[i]) = true := fun i hi => (mem_listB _ _).1 (List.getElem_mem hi)
  have HM := hideIt hmem
  clear hmem
  rcases hown.form with ⟨hl, x, c, rfl⟩ | ⟨g, c, rfl, hg0, hg1, hne, hcell, _⟩
  · clear hl
    go_wp2
    refine wp_loop_rounds 1 ?_
    rw [rounds_succ]
    go_wp2
    go_ret
    exact ⟨rfl, hb⟩
  · generalize hl : listB (b &&& ~~~k) = l at *
    clear hl
    go_wp2
    go_loopw [8, 9, 10, 11] (fun i _ _ _ wr => ∃ j : Nat, j ≤ l.length ∧ i = .int .i64 j ∧ Below w4.heap.size w4 wr) (fun i _ _ _ _ => l.length - (intOf i).toNat)
    case atStart => exact ⟨0, by omega, rfl, Below.refl _ _⟩
    case round =>
      obtain ⟨j, hj, rfl, hbel⟩ := hrel
      by_cases hlt : j < l.length
      · have hx : wr.cell? ⟨g, j, none⟩ = some (.int .i64 (l[j])) := (hbel.cell (p := ⟨g, j, none⟩) hg1).trans (hcell j hlt)
        have hm := HM.out j hlt
        generalize l[j] = x at *
        have hr : 0 ≤ x ∧ x < 64 := by
          apply Classical.byContradiction; intro hc; rw [hasB_out _ hc] at hm; cases hm
        have hx0 := hr.1
        have hx1 := hr.2
        have hee := edge_7 x (He.out x hm)
        clear hcell hm hr
        rcases hee with e1 | ⟨e1, e2⟩
        all_goals
          go_wp2
          go_quiet (fail)
          go_wp2
          go_roundw
          case rel => exact ⟨j + 1, by omega, by go_num, below_drewN hbel _⟩
          case measure => simp [intOf]; omega
      · go_wp2
        go_ret
        exact ⟨rfl, hb.trans (hbel.mono hb.size)⟩

theorem bitsBack_walk (a0 a1 : Int) (w0 : (Lit.int .u64 a0).wf = true) (_w1 : (Lit.int .i64 a1).wf = true) (w : World) (hT : Tab w) :
    Calls Tryd.prog 5 #[.int .u64 a0, .int .i64 a1] w fun e w' => e = .returned (.bool true) ∧ Below w.heap.size w w' := by
  obtain ⟨b, rfl⟩ := of_wf w0
  rcases dir_any a1 with hd | hd | hd | hd | hd | hd | hd | hd
  · exact back_0 b a1 hd w hT
  · exact back_1 b a1 hd w hT
  · exact back_2 b a1 hd w hT
  · exact back_3 b a1 hd w hT
  · exact back_4 b a1 hd w hT
  · exact back_5 b a1 hd w hT
  · exact back_6 b a1 hd w hT
  · exact back_7 b a1 hd w hT

end Go.Proofs.YtndijfckmokgbaaDoor
