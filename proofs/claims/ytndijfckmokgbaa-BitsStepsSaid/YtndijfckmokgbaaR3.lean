/- Walks of the reference of bits: Step, Shift, Flip. Lines alike written by gen_r3.py. -/
import Derived.Test.YtndijfckmokgbaaR2
namespace Go.Proofs.Ytndijfckmokgbaa
open Go Go.RowKit

theorem stepI_no {s dir : Int} (h : ¬ (0 ≤ s ∧ s < 64 ∧ 0 ≤ dir ∧ dir < 8)) : stepI s dir = -1 := if_neg h

theorem rstep_out (s dir : Int) (h : ¬ (0 ≤ s ∧ s < 64 ∧ 0 ≤ dir ∧ dir < 8)) (w : World) :
    Calls Try.prog 19 #[.int .i64 s, .int .i64 dir] w fun e w' => e = .returned (.int .i64 (stepI s dir)) ∧ Below w.heap.size w w' := by
  have hc : s < 0 ∨ (0 ≤ s ∧ 63 < s) ∨ (0 ≤ s ∧ s ≤ 63 ∧ dir < 0) ∨ (0 ≤ s ∧ s ≤ 63 ∧ 0 ≤ dir ∧ 7 < dir) := by omega
  rcases hc with h1 | ⟨h0, h1⟩ | ⟨h0, h1, h2⟩ | ⟨h0, h1, h2, h3⟩
  all_goals
    go_enter Try.func19, Try.ntmps19
    go_wp2
    go_ret
    exact ⟨ret_int (stepI_no h).symm, ((Below.refl _ _).alloc (Nat.le_refl _) _).alloc (by simp) _⟩

set_option maxHeartbeats 1000000 in
theorem rstep_0 (s : Int) (h0 : 0 ≤ s) (h1 : s < 64) (w : World) :
    Calls Try.prog 19 #[.int .i64 s, .int .i64 0] w fun e w' => e = .returned (.int .i64 (stepI s 0)) ∧ Below w.heap.size w w' := by
  have e0 : stepI s 0 = if 0 ≤ s % 8 + (0) ∧ s % 8 + (0) < 8 ∧ 0 ≤ s / 8 + (1) ∧ s / 8 + (1) < 8 then 8 * (s / 8 + (1)) + (s % 8 + (0)) else -1 := by
    unfold stepI; rw [if_pos (by omega)]; rfl
  have HE := hideIt e0
  clear e0
  have hc : (7 < s / 8 + (1)) ∨ (¬ (7 < s / 8 + (1))) := by omega
  rcases hc with c0 | c0
  all_goals
    go_enter Try.func19, Try.ntmps19
    go_wp2
    go_quiet (fail)
    go_wp2
    go_ret
    exact ⟨ret_int (by rw [HE.out]; first | (rw [if_neg (by omega)]; done) | (rw [if_pos (by omega)]; done) | (rw [if_pos (by omega)]; omega)), below_drewN (((Below.refl _ _).alloc (Nat.le_refl _) _).alloc (by simp) _) _⟩

set_option maxHeartbeats 1000000 in
theorem rstep_1 (s : Int) (h0 : 0 ≤ s) (h1 : s < 64) (w : World) :
    Calls Try.prog 19 #[.int .i64 s, .int .i64 1] w fun e w' => e = .returned (.int .i64 (stepI s 1)) ∧ Below w.heap.size w w' := by
  have e0 : stepI s 1 = if 0 ≤ s % 8 + (1) ∧ s % 8 + (1) < 8 ∧ 0 ≤ s / 8 + (1) ∧ s / 8 + (1) < 8 then 8 * (s / 8 + (1)) + (s % 8 + (1)) else -1 := by
    unfold stepI; rw [if_pos (by omega)]; rfl
  have HE := hideIt e0
  clear e0
  have hc : (7 < s % 8 + (1)) ∨ (¬ (7 < s % 8 + (1)) ∧ 7 < s / 8 + (1)) ∨ (¬ (7 < s % 8 + (1)) ∧ ¬ (7 < s / 8 + (1))) := by omega
  rcases hc with c0 | ⟨c0, c1⟩ | ⟨c0, c1⟩
  all_goals
    go_enter Try.func19, Try.ntmps19
    go_wp2
    go_quiet (fail)
    go_wp2
    go_ret
    exact ⟨ret_int (by rw [HE.out]; first | (rw [if_neg (by omega)]; done) | (rw [if_pos (by omega)]; done) | (rw [if_pos (by omega)]; omega)), below_drewN (((Below.refl _ _).alloc (Nat.le_refl _) _).alloc (by simp) _) _⟩

set_option maxHeartbeats 1000000 in
theorem rstep_2 (s : Int) (h0 : 0 ≤ s) (h1 : s < 64) (w : World) :
    Calls Try.prog 19 #[.int .i64 s, .int .i64 2] w fun e w' => e = .returned (.int .i64 (stepI s 2)) ∧ Below w.heap.size w w' := by
  have e0 : stepI s 2 = if 0 ≤ s % 8 + (1) ∧ s % 8 + (1) < 8 ∧ 0 ≤ s / 8 + (0) ∧ s / 8 + (0) < 8 then 8 * (s / 8 + (0)) + (s % 8 + (1)) else -1 := by
    unfold stepI; rw [if_pos (by omega)]; rfl
  have HE := hideIt e0
  clear e0
  have hc : (7 < s % 8 + (1)) ∨ (¬ (7 < s % 8 + (1))) := by omega
  rcases hc with c0 | c0
  all_goals
    go_enter Try.func19, Try.ntmps19
    go_wp2
    go_quiet (fail)
    go_wp2
    go_ret
    exact ⟨ret_int (by rw [HE.out]; first | (rw [if_neg (by omega)]; done) | (rw [if_pos (by omega)]; done) | (rw [if_pos (by omega)]; omega)), below_drewN (((Below.refl _ _).alloc (Nat.le_refl _) _).alloc (by simp) _) _⟩

set_option maxHeartbeats 1000000 in
theorem rstep_3 (s : Int) (h0 : 0 ≤ s) (h1 : s < 64) (w : World) :
    Calls Try.prog 19 #[.int .i64 s, .int .i64 3] w fun e w' => e = .returned (.int .i64 (stepI s 3)) ∧ Below w.heap.size w w' := by
  have e0 : stepI s 3 = if 0 ≤ s % 8 + (1) ∧ s % 8 + (1) < 8 ∧ 0 ≤ s / 8 + (-1) ∧ s / 8 + (-1) < 8 then 8 * (s / 8 + (-1)) + (s % 8 + (1)) else -1 := by
    unfold stepI; rw [if_pos (by omega)]; rfl
  have HE := hideIt e0
  clear e0
  have hc : (7 < s % 8 + (1)) ∨ (¬ (7 < s % 8 + (1)) ∧ s / 8 + (-1) < 0) ∨ (¬ (7 < s % 8 + (1)) ∧ ¬ (s / 8 + (-1) < 0)) := by omega
  rcases hc with c0 | ⟨c0, c1⟩ | ⟨c0, c1⟩
  all_goals
    go_enter Try.func19, Try.ntmps19
    go_wp2
    go_quiet (fail)
    go_wp2
    go_ret
    exact ⟨ret_int (by rw [HE.out]; first | (rw [if_neg (by omega)]; done) | (rw [if_pos (by omega)]; done) | (rw [if_pos (by omega)]; omega)), below_drewN (((Below.refl _ _).alloc (Nat.le_refl _) _).alloc (by simp) _) _⟩

set_option maxHeartbeats 1000000 in
theorem rstep_4 (s : Int) (h0 : 0 ≤ s) (h1 : s < 64) (w : World) :
    Calls Try.prog 19 #[.int .i64 s, .int .i64 4] w fun e w' => e = .returned (.int .i64 (stepI s 4)) ∧ Below w.heap.size w w' := by
  have e0 : stepI s 4 = if 0 ≤ s % 8 + (0) ∧ s % 8 + (0) < 8 ∧ 0 ≤ s / 8 + (-1) ∧ s / 8 + (-1) < 8 then 8 * (s / 8 + (-1)) + (s % 8 + (0)) else -1 := by
    unfold stepI; rw [if_pos (by omega)]; rfl
  have HE := hideIt e0
  clear e0
  have hc : (s / 8 + (-1) < 0) ∨ (¬ (s / 8 + (-1) < 0)) := by omega
  rcases hc with c0 | c0
  all_goals
    go_enter Try.func19, Try.ntmps19
    go_wp2
    go_quiet (fail)
    go_wp2
    go_ret
    exact ⟨ret_int (by rw [HE.out]; first | (rw [if_neg (by omega)]; done) | (rw [if_pos (by omega)]; done) | (rw [if_pos (by omega)]; omega)), below_drewN (((Below.refl _ _).alloc (Nat.le_refl _) _).alloc (by simp) _) _⟩

set_option maxHeartbeats 1000000 in
theorem rstep_5 (s : Int) (h0 : 0 ≤ s) (h1 : s < 64) (w : World) :
    Calls Try.prog 19 #[.int .i64 s, .int .i64 5] w fun e w' => e = .returned (.int .i64 (stepI s 5)) ∧ Below w.heap.size w w' := by
  have e0 : stepI s 5 = if 0 ≤ s % 8 + (-1) ∧ s % 8 + (-1) < 8 ∧ 0 ≤ s / 8 + (-1) ∧ s / 8 + (-1) < 8 then 8 * (s / 8 + (-1)) + (s % 8 + (-1)) else -1 := by
    unfold stepI; rw [if_pos (by omega)]; rfl
  have HE := hideIt e0
  clear e0
  have hc : (s % 8 + (-1) < 0) ∨ (¬ (s % 8 + (-1) < 0) ∧ s / 8 + (-1) < 0) ∨ (¬ (s % 8 + (-1) < 0) ∧ ¬ (s / 8 + (-1) < 0)) := by omega
  rcases hc with c0 | ⟨c0, c1⟩ | ⟨c0, c1⟩
  all_goals
    go_enter Try.func19, Try.ntmps19
    go_wp2
    go_quiet (fail)
    go_wp2
    go_ret
    exact ⟨ret_int (by rw [HE.out]; first | (rw [if_neg (by omega)]; done) | (rw [if_pos (by omega)]; done) | (rw [if_pos (by omega)]; omega)), below_drewN (((Below.refl _ _).alloc (Nat.le_refl _) _).alloc (by simp) _) _⟩

set_option maxHeartbeats 1000000 in
theorem rstep_6 (s : Int) (h0 : 0 ≤ s) (h1 : s < 64) (w : World) :
    Calls Try.prog 19 #[.int .i64 s, .int .i64 6] w fun e w' => e = .returned (.int .i64 (stepI s 6)) ∧ Below w.heap.size w w' := by
  have e0 : stepI s 6 = if 0 ≤ s % 8 + (-1) ∧ s % 8 + (-1) < 8 ∧ 0 ≤ s / 8 + (0) ∧ s / 8 + (0) < 8 then 8 * (s / 8 + (0)) + (s % 8 + (-1)) else -1 := by
    unfold stepI; rw [if_pos (by omega)]; rfl
  have HE := hideIt e0
  clear e0
  have hc : (s % 8 + (-1) < 0) ∨ (¬ (s % 8 + (-1) < 0)) := by omega
  rcases hc with c0 | c0
  all_goals
    go_enter Try.func19, Try.ntmps19
    go_wp2
    go_quiet (fail)
    go_wp2
    go_ret
    exact ⟨ret_int (by rw [HE.out]; first | (rw [if_neg (by omega)]; done) | (rw [if_pos (by omega)]; done) | (rw [if_pos (by omega)]; omega)), below_drewN (((Below.refl _ _).alloc (Nat.le_refl _) _).alloc (by simp) _) _⟩

set_option maxHeartbeats 1000000 in
theorem rstep_7 (s : Int) (h0 : 0 ≤ s) (h1 : s < 64) (w : World) :
    Calls Try.prog 19 #[.int .i64 s, .int .i64 7] w fun e w' => e = .returned (.int .i64 (stepI s 7)) ∧ Below w.heap.size w w' := by
  have e0 : stepI s 7 = if 0 ≤ s % 8 + (-1) ∧ s % 8 + (-1) < 8 ∧ 0 ≤ s / 8 + (1) ∧ s / 8 + (1) < 8 then 8 * (s / 8 + (1)) + (s % 8 + (-1)) else -1 := by
    unfold stepI; rw [if_pos (by omega)]; rfl
  have HE := hideIt e0
  clear e0
  have hc : (s % 8 + (-1) < 0) ∨ (¬ (s % 8 + (-1) < 0) ∧ 7 < s / 8 + (1)) ∨ (¬ (s % 8 + (-1) < 0) ∧ ¬ (7 < s / 8 + (1))) := by omega
  rcases hc with c0 | ⟨c0, c1⟩ | ⟨c0, c1⟩
  all_goals
    go_enter Try.func19, Try.ntmps19
    go_wp2
    go_quiet (fail)
    go_wp2
    go_ret
    exact ⟨ret_int (by rw [HE.out]; first | (rw [if_neg (by omega)]; done) | (rw [if_pos (by omega)]; done) | (rw [if_pos (by omega)]; omega)), below_drewN (((Below.refl _ _).alloc (Nat.le_refl _) _).alloc (by simp) _) _⟩

theorem rstep_any (s dir : Int) (w : World) :
    Calls Try.prog 19 #[.int .i64 s, .int .i64 dir] w fun e w' => e = .returned (.int .i64 (stepI s dir)) ∧ Below w.heap.size w w' := by
  by_cases h : 0 ≤ s ∧ s < 64 ∧ 0 ≤ dir ∧ dir < 8
  · rcases dir_cases h.2.2.1 h.2.2.2 with rfl | rfl | rfl | rfl | rfl | rfl | rfl | rfl
    · exact rstep_0 s h.1 h.2.1 w
    · exact rstep_1 s h.1 h.2.1 w
    · exact rstep_2 s h.1 h.2.1 w
    · exact rstep_3 s h.1 h.2.1 w
    · exact rstep_4 s h.1 h.2.1 w
    · exact rstep_5 s h.1 h.2.1 w
    · exact rstep_6 s h.1 h.2.1 w
    · exact rstep_7 s h.1 h.2.1 w
  · exact rstep_out s dir h w

theorem take_snocI (l : List Int) (k : Nat) (h : k < l.length) : l.take (k + 1) = l.take k ++ [l[k]] := by
  rw [List.take_succ_eq_append_getElem h]
theorem foldPut_take (f : Int → Int) (l : List Int) (k : Nat) (h : k < l.length) : foldPut f (l.take (k + 1)) = putB (foldPut f (l.take k)) (f (l[k])) := by
  rw [take_snocI l k h, foldPut_snoc]
theorem listB_range (b : BitVec 64) (k : Nat) (h : k < (listB b).length) : 0 ≤ (listB b)[k] ∧ (listB b)[k] < 64 := by
  have hm : (listB b)[k] ∈ listB b := List.getElem_mem h
  rw [mem_listB] at hm
  apply Classical.byContradiction; intro hc
  rw [hasB_out b (by omega)] at hm; cases hm

set_option maxHeartbeats 800000 in
theorem rshift_any (b : BitVec 64) {a : Int} (ha : a = u b) (dir : Int) (w : World) :
    Calls Try.prog 12 #[.int .u64 a, .int .i64 dir] w fun e w' => e = .returned (.int .u64 (u (shiftB b dir))) ∧ Below w.heap.size w w' := by
  subst ha
  rw [← shift_via]
  have HV := hideIt (show viaList (fun s => stepI s dir) b = foldPut (fun s => stepI s dir) (listB b) from rfl)
  have hlen := listB_length b
  go_enter Try.func12, Try.ntmps12
  go_wp2_with fail
  refine (rlist_any b rfl _).mono ?_
  rintro e w1 ⟨v, rfl, hown, hb1⟩
  rcases hown.form with ⟨hl, x, c, rfl⟩ | ⟨g, c, rfl, hg0, hg1, hne, hcell, _⟩
  · have HL := hideIt hl
    clear hl
    go_wp2
    refine wp_loop_rounds 1 ?_
    rw [rounds_succ]
    go_wp2
    go_ret
    exact ⟨ret_int (by rw [HV.out, HL.out]; rfl), hb1⟩
  · go_wp2
    go_loopw [5, 7] (fun x i wr => ∃ k : Nat, k ≤ (listB b).length ∧ i = .int .i64 k ∧ x = .int .u64 (u (foldPut (fun s => stepI s dir) ((listB b).take k))) ∧ Below w1.heap.size w1 wr) (fun _ i _ => (listB b).length - (intOf i).toNat)
    case atStart => exact ⟨0, by omega, rfl, rfl, Below.refl _ _⟩
    case round =>
      obtain ⟨k, hk, rfl, rfl, hbel⟩ := hrel
      by_cases hlt : k < (listB b).length
      · have hc := hcell k hlt
        have hc2 : wr.cell? ⟨g, k, none⟩ = some (.int .i64 ((listB b)[k])) := by rw [hbel.cell (p := ⟨g, k, none⟩) hg1]; exact hc
        clear hc hcell
        have HF := hideIt (foldPut_take (fun s => stepI s dir) (listB b) k hlt)
        go_wp2_with fail
        refine (rstep_any _ _ _).mono ?_
        rintro e w2 ⟨rfl, hb2⟩
        go_wp2_with fail
        refine (rput_any _ rfl _ _).mono ?_
        rintro e w3 ⟨rfl, rfl⟩
        go_wp2
        go_roundw
        case rel => exact ⟨k + 1, by omega, by go_num, by rw [HF.out], hbel.trans (hb2.mono hbel.size)⟩
        case measure => simp [intOf]; omega
      · go_wp2
        go_ret
        obtain rfl : k = (listB b).length := by omega
        exact ⟨ret_int (by rw [HV.out, List.take_length]), hb1.trans (hbel.mono hb1.size)⟩

set_option maxHeartbeats 1600000 in
theorem rflip_any (b : BitVec 64) {a : Int} (ha : a = u b) (w : World) :
    Calls Try.prog 14 #[.int .u64 a] w fun e w' => e = .returned (.int .u64 (u (flipB b))) ∧ Below w.heap.size w w' := by
  subst ha
  rw [← flip_via]
  have HV := hideIt (show viaList flipI b = foldPut flipI (listB b) from rfl)
  have hlen := listB_length b
  go_enter Try.func14, Try.ntmps14
  go_wp2_with fail
  refine (rlist_any b rfl _).mono ?_
  rintro e w1 ⟨v, rfl, hown, hb1⟩
  rcases hown.form with ⟨hl, x, c, rfl⟩ | ⟨g, c, rfl, hg0, hg1, hne, hcell, _⟩
  · have HL := hideIt hl
    clear hl
    go_wp2
    refine wp_loop_rounds 1 ?_
    rw [rounds_succ]
    go_wp2
    go_ret
    exact ⟨ret_int (by rw [HV.out, HL.out]; rfl), hb1⟩
  · go_wp2
    go_loopw [3, 5] (fun x i wr => ∃ k : Nat, k ≤ (listB b).length ∧ i = .int .i64 k ∧ x = .int .u64 (u (foldPut flipI ((listB b).take k))) ∧ Below w1.heap.size w1 wr) (fun _ i _ => (listB b).length - (intOf i).toNat)
    case atStart => exact ⟨0, by omega, rfl, rfl, Below.refl _ _⟩
    case round =>
      obtain ⟨k, hk, rfl, rfl, hbel⟩ := hrel
      by_cases hlt : k < (listB b).length
      · have hc := hcell k hlt
        have hc2 : wr.cell? ⟨g, k, none⟩ = some (.int .i64 ((listB b)[k])) := by rw [hbel.cell (p := ⟨g, k, none⟩) hg1]; exact hc
        have hr := listB_range b k hlt
        have HF := hideIt (foldPut_take flipI (listB b) k hlt)
        generalize hsx : (listB b)[k] = sx at *
        have HS := hideIt hsx
        clear hc hcell hsx
        have hx0 := hr.1
        have hx1 := hr.2
        go_wp2
        go_quiet ((go_at_call 8; exact quietEq (rput_any _ rfl _ _)))
        go_wp2
        go_roundw
        case rel => exact ⟨k + 1, by omega, by go_num, by rw [HF.out]; rfl, below_drewN hbel _⟩
        case measure => simp [intOf]; omega
      · go_wp2
        go_ret
        obtain rfl : k = (listB b).length := by omega
        exact ⟨ret_int (by rw [HV.out, List.take_length]), hb1.trans (hbel.mono hb1.size)⟩

end Go.Proofs.Ytndijfckmokgbaa
