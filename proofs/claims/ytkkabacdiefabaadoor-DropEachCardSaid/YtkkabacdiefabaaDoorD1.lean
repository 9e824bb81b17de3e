/- Walks of drop: fits, Held, Add, Take; of the reference: Held, Kind (written by gen_d1.py). -/
import Derived.Test.YtkkabacdiefabaaDoorPE0
import Derived.Test.YtkkabacdiefabaaDoorP3
import Derived.Test.YtkkabacdiefabaaDoorPA
import Derived.RegionTactic
import Derived.ChangeAlike
import Derived.IntWalk
import Derived.Laws.ResultCell
namespace Go.Proofs.YtkkabacdiefabaaDoor
open Go Go.RowKit
set_option linter.unusedVariables false

def fitsB (c k : Int) : Bool := decide (c ≤ 1) && (decide (1 ≤ k) && decide (k ≤ 5))
theorem fits_any (c k : Int) (c0 : 0 ≤ c) (c1 : c ≤ 255) (k0 : 0 ≤ k) (k1 : k ≤ 255) (w : World) : Calls Tryd.prog 25 #[.int .u8 c, .int .u8 k] w fun e w' => e = .returned (.bool (fitsB c k)) ∧ w = w' := by
  by_cases h1 : c ≤ 1
  · by_cases h2 : 1 ≤ k
    · by_cases h3 : k ≤ 5
      · have E := hideIt (show fitsB c k = true by unfold fitsB; rw [decide_eq_true h1, decide_eq_true h2, decide_eq_true h3]; rfl)
        go_enter Tryd.func25, Tryd.ntmps25
        go_wp2
        go_ret
        exact ⟨ret_bool E.out.symm, rfl⟩
      · have E := hideIt (show fitsB c k = false by unfold fitsB; rw [decide_eq_false h3, Bool.and_false, Bool.and_false])
        have d3 : decide (k ≤ 5) = false := decide_eq_false h3
        go_enter Tryd.func25, Tryd.ntmps25
        go_wp2
        go_ret
        exact ⟨ret_bool E.out.symm, rfl⟩
    · have E := hideIt (show fitsB c k = false by unfold fitsB; rw [decide_eq_false h2, Bool.false_and, Bool.and_false])
      have d2 : decide (1 ≤ k) = false := decide_eq_false h2
      go_enter Tryd.func25, Tryd.ntmps25
      go_wp2
      go_ret
      exact ⟨ret_bool E.out.symm, rfl⟩
  · have E := hideIt (show fitsB c k = false by unfold fitsB; rw [decide_eq_false h1, Bool.false_and])
    have d1 : decide (c ≤ 1) = false := decide_eq_false h1
    go_enter Tryd.func25, Tryd.ntmps25
    go_wp2
    go_ret
    exact ⟨ret_bool E.out.symm, rfl⟩

def hldK (n : Nat → Int) (c : Nat) : Nat → Int
  | 0 => 0
  | j + 1 => hldK n c j + n (67 + 6 * c + j)
def hldI (n : Nat → Int) (c : Nat) : Int := if c ≤ 1 then hldK n c 5 else 0
theorem kind_pock (c j : Nat) (hc : c ≤ 1) (hj : j < 6) : kindAt (66 + 6 * c + j) = .u8 := by
  unfold kindAt
  rw [if_neg (by omega), if_neg (by omega), if_pos (by omega)]
theorem hldK_bd (n : Nat → Int) (hn : PosOk n) (c : Nat) (hc : c ≤ 1) : ∀ j : Nat, j ≤ 5 → 0 ≤ hldK n c j ∧ hldK n c j ≤ 255 * (j : Int)
  | 0, _ => ⟨Int.le_refl 0, Int.le_refl 0⟩
  | j + 1, hj => by
    obtain ⟨h1, h2⟩ := hldK_bd n hn c hc j (by omega)
    have hk := kind_pock c (j + 1) hc (by omega)
    rw [show 66 + 6 * c + (j + 1) = 67 + 6 * c + j by omega] at hk
    obtain ⟨y0, y1⟩ := hn.u8 (67 + 6 * c + j) (by omega) hk
    unfold hldK
    omega
theorem hldI_bd (n : Nat → Int) (hn : PosOk n) (c : Nat) : 0 ≤ hldI n c ∧ hldI n c ≤ 1275 := by
  unfold hldI
  split
  · rename_i h
    have := hldK_bd n hn c h 5 (by decide)
    omega
  · omega

theorem k8_any (x : Int) (x0 : 0 ≤ x) (x1 : x ≤ 255) (w : World) : Calls Tryd.prog 22 #[.int .u8 x] w fun e w' => e = .returned (.int .u8 (kndI x)) ∧ w = w' := by
  have hc : 15 < x ∨ (x ≤ 15 ∧ x % 8 < 1) ∨ (x ≤ 15 ∧ ¬ x % 8 < 1 ∧ 6 < x % 8) ∨ (x ≤ 15 ∧ ¬ x % 8 < 1 ∧ ¬ 6 < x % 8) := by omega
  rcases hc with h | ⟨h1, h2⟩ | ⟨h1, h2, h3⟩ | ⟨h1, h2, h3⟩
  · have E := hideIt (show kndI x = 0 by unfold kndI; rw [if_neg (by omega), if_neg (by omega)])
    go_enter Tryd.func22, Tryd.ntmps22
    go_wp2
    go_ret
    exact ⟨ret_int E.out.symm, rfl⟩
  · have E := hideIt (show kndI x = 0 by unfold kndI; rw [if_neg (by omega), if_neg (by omega)])
    have d1 : decide (15 < x) = false := decide_eq_false (by omega)
    have d2 : decide (x % 8 < 1) = true := decide_eq_true h2
    go_enter Tryd.func22, Tryd.ntmps22
    go_wp2
    go_ret
    exact ⟨ret_int E.out.symm, rfl⟩
  · have E := hideIt (show kndI x = 0 by unfold kndI; rw [if_neg (by omega), if_neg (by omega)])
    have d1 : decide (15 < x) = false := decide_eq_false (by omega)
    have d2 : decide (x % 8 < 1) = false := decide_eq_false h2
    have d3 : decide (6 < x % 8) = true := decide_eq_true h3
    go_enter Tryd.func22, Tryd.ntmps22
    go_wp2
    go_ret
    exact ⟨ret_int E.out.symm, rfl⟩
  · have E := hideIt (show kndI x = x % 8 by unfold kndI; repeat (first | omega | split))
    have d1 : decide (15 < x) = false := decide_eq_false (by omega)
    have d2 : decide (x % 8 < 1) = false := decide_eq_false h2
    have d3 : decide (6 < x % 8) = false := decide_eq_false h3
    go_enter Tryd.func22, Tryd.ntmps22
    go_wp2
    go_ret
    exact ⟨ret_int E.out.symm, rfl⟩


set_option maxHeartbeats 1600000 in
theorem held15_0 (n : Nat → Int) (hn : PosOk n) (w : World) : Calls Tryd.prog 13 #[.agg (posA n), .int .u8 0] w fun e w' => e = .returned (.int .i64 (hldI n 0)) ∧ Below w.heap.size w w' := by
  have HB := hideIt (hldK_bd n hn 0 (by decide))
  have HE0 := hideIt (show hldI n 0 = hldK n 0 5 from if_pos (by decide))
  obtain ⟨X, hX⟩ : ∃ X, w.alloc (.cells (posA n) 31) = X := ⟨_, rfl⟩
  obtain ⟨p0, hb⟩ := box1 w n X hX
  have HX := hideIt hX
  have HC : Hid (∀ j, j < 5 → X.cell? ⟨w.heap.size, 67 + j, none⟩ = some (.int .u8 (n (67 + j)))) := fun j hj => by
    have := p0.cell (67 + j) (by omega)
    have hk := kind_pock 0 (j + 1) (by decide) (by omega)
    rw [show 66 + 6 * 0 + (j + 1) = 67 + j by omega] at hk
    rwa [hk] at this
  have HN : Hid (∀ j, j < 5 → 0 ≤ n (67 + j) ∧ n (67 + j) ≤ 255) := fun j hj => by
    have hk := kind_pock 0 (j + 1) (by decide) (by omega)
    rw [show 66 + 6 * 0 + (j + 1) = 67 + j by omega] at hk
    exact hn.u8 (67 + j) (by omega) hk
  clear hX p0
  go_enter Tryd.func13, Tryd.ntmps13
  go_wp2_with (rw [HX.out])
  go_loop [5, 15] (fun v i => ∃ k : Nat, k ≤ 5 ∧ i = .int .i64 k ∧ v = .int .i64 (hldK n 0 k)) (fun _ i => 5 - (intOf i).toNat)
  case atStart => exact ⟨0, by omega, rfl, rfl⟩
  case round =>
    obtain ⟨k, hk, rfl, rfl⟩ := hrel
    by_cases hlt : k < 5
    · have cc := HC.out k hlt
      obtain ⟨y0, y1⟩ := HN.out k hlt
      obtain ⟨h0, h1⟩ := HB.out k hk
      have HE := hideIt (show hldK n 0 (k + 1) = hldK n 0 k + n (67 + k) from rfl)
      generalize hldK n 0 k = hd at HE h0 h1
      generalize n (67 + k) = x at HE cc y0 y1
      go_wp2
      go_round
      case rel => exact ⟨k + 1, by omega, by go_num, by rw [HE.out]⟩
      case measure => simp [intOf]; omega
    · obtain rfl : k = 5 := by omega
      go_wp2
      go_ret
      exact ⟨ret_int HE0.out.symm, hb⟩
set_option maxHeartbeats 1600000 in
theorem rheld15_0 (n : Nat → Int) (hn : PosOk n) (w : World) : Calls Tryd.prog 14 #[.agg (posA n), .int .u8 0] w fun e w' => e = .returned (.int .i64 (hldI n 0)) ∧ Below w.heap.size w w' := by
  have HB := hideIt (hldK_bd n hn 0 (by decide))
  have HE0 := hideIt (show hldI n 0 = hldK n 0 5 from if_pos (by decide))
  obtain ⟨X, hX⟩ : ∃ X, w.alloc (.cells (posA n) 31) = X := ⟨_, rfl⟩
  obtain ⟨p0, hb⟩ := box1 w n X hX
  have HX := hideIt hX
  have HC : Hid (∀ j, j < 5 → X.cell? ⟨w.heap.size, 66 + (j + 1), none⟩ = some (.int .u8 (n (67 + j)))) := fun j hj => by
    have := p0.cell (66 + (j + 1)) (by omega)
    rw [show 66 + (j + 1) = 67 + j by omega] at this
    have hk := kind_pock 0 (j + 1) (by decide) (by omega)
    rw [show 66 + 6 * 0 + (j + 1) = 67 + j by omega] at hk
    rw [show 66 + (j + 1) = 67 + j by omega]
    rwa [hk] at this
  have HN : Hid (∀ j, j < 5 → 0 ≤ n (67 + j) ∧ n (67 + j) ≤ 255) := fun j hj => by
    have hk := kind_pock 0 (j + 1) (by decide) (by omega)
    rw [show 66 + 6 * 0 + (j + 1) = 67 + j by omega] at hk
    exact hn.u8 (67 + j) (by omega) hk
  clear hX p0
  go_enter Tryd.func14, Tryd.ntmps14
  go_wp2_with (rw [HX.out])
  go_loop [5, 6] (fun v i => ∃ k : Nat, k ≤ 5 ∧ i = .int .i64 ((k : Int) + 1) ∧ v = .int .i64 (hldK n 0 k)) (fun _ i => 6 - (intOf i).toNat)
  case atStart => exact ⟨0, by omega, rfl, rfl⟩
  case round =>
    obtain ⟨k, hk, rfl, rfl⟩ := hrel
    by_cases hlt : k < 5
    · have cc := HC.out k hlt
      obtain ⟨y0, y1⟩ := HN.out k hlt
      obtain ⟨h0, h1⟩ := HB.out k hk
      have HE := hideIt (show hldK n 0 (k + 1) = hldK n 0 k + n (67 + k) from rfl)
      generalize hldK n 0 k = hd at HE h0 h1
      generalize n (67 + k) = x at HE cc y0 y1
      go_wp2
      go_round
      case rel => exact ⟨k + 1, by omega, by go_num, by rw [HE.out]⟩
      case measure => simp [intOf]; omega
    · obtain rfl : k = 5 := by omega
      go_wp2
      go_ret
      exact ⟨ret_int HE0.out.symm, hb⟩


set_option maxHeartbeats 1600000 in
theorem held15_1 (n : Nat → Int) (hn : PosOk n) (w : World) : Calls Tryd.prog 13 #[.agg (posA n), .int .u8 1] w fun e w' => e = .returned (.int .i64 (hldI n 1)) ∧ Below w.heap.size w w' := by
  have HB := hideIt (hldK_bd n hn 1 (by decide))
  have HE0 := hideIt (show hldI n 1 = hldK n 1 5 from if_pos (by decide))
  obtain ⟨X, hX⟩ : ∃ X, w.alloc (.cells (posA n) 31) = X := ⟨_, rfl⟩
  obtain ⟨p0, hb⟩ := box1 w n X hX
  have HX := hideIt hX
  have HC : Hid (∀ j, j < 5 → X.cell? ⟨w.heap.size, 73 + j, none⟩ = some (.int .u8 (n (73 + j)))) := fun j hj => by
    have := p0.cell (73 + j) (by omega)
    have hk := kind_pock 1 (j + 1) (by decide) (by omega)
    rw [show 66 + 6 * 1 + (j + 1) = 73 + j by omega] at hk
    rwa [hk] at this
  have HN : Hid (∀ j, j < 5 → 0 ≤ n (73 + j) ∧ n (73 + j) ≤ 255) := fun j hj => by
    have hk := kind_pock 1 (j + 1) (by decide) (by omega)
    rw [show 66 + 6 * 1 + (j + 1) = 73 + j by omega] at hk
    exact hn.u8 (73 + j) (by omega) hk
  clear hX p0
  go_enter Tryd.func13, Tryd.ntmps13
  go_wp2_with (rw [HX.out])
  go_loop [5, 15] (fun v i => ∃ k : Nat, k ≤ 5 ∧ i = .int .i64 k ∧ v = .int .i64 (hldK n 1 k)) (fun _ i => 5 - (intOf i).toNat)
  case atStart => exact ⟨0, by omega, rfl, rfl⟩
  case round =>
    obtain ⟨k, hk, rfl, rfl⟩ := hrel
    by_cases hlt : k < 5
    · have cc := HC.out k hlt
      obtain ⟨y0, y1⟩ := HN.out k hlt
      obtain ⟨h0, h1⟩ := HB.out k hk
      have HE := hideIt (show hldK n 1 (k + 1) = hldK n 1 k + n (73 + k) from rfl)
      generalize hldK n 1 k = hd at HE h0 h1
      generalize n (73 + k) = x at HE cc y0 y1
      go_wp2
      go_round
      case rel => exact ⟨k + 1, by omega, by go_num, by rw [HE.out]⟩
      case measure => simp [intOf]; omega
    · obtain rfl : k = 5 := by omega
      go_wp2
      go_ret
      exact ⟨ret_int HE0.out.symm, hb⟩
set_option maxHeartbeats 1600000 in
theorem rheld15_1 (n : Nat → Int) (hn : PosOk n) (w : World) : Calls Tryd.prog 14 #[.agg (posA n), .int .u8 1] w fun e w' => e = .returned (.int .i64 (hldI n 1)) ∧ Below w.heap.size w w' := by
  have HB := hideIt (hldK_bd n hn 1 (by decide))
  have HE0 := hideIt (show hldI n 1 = hldK n 1 5 from if_pos (by decide))
  obtain ⟨X, hX⟩ : ∃ X, w.alloc (.cells (posA n) 31) = X := ⟨_, rfl⟩
  obtain ⟨p0, hb⟩ := box1 w n X hX
  have HX := hideIt hX
  have HC : Hid (∀ j, j < 5 → X.cell? ⟨w.heap.size, 72 + (j + 1), none⟩ = some (.int .u8 (n (73 + j)))) := fun j hj => by
    have := p0.cell (72 + (j + 1)) (by omega)
    rw [show 72 + (j + 1) = 73 + j by omega] at this
    have hk := kind_pock 1 (j + 1) (by decide) (by omega)
    rw [show 66 + 6 * 1 + (j + 1) = 73 + j by omega] at hk
    rw [show 72 + (j + 1) = 73 + j by omega]
    rwa [hk] at this
  have HN : Hid (∀ j, j < 5 → 0 ≤ n (73 + j) ∧ n (73 + j) ≤ 255) := fun j hj => by
    have hk := kind_pock 1 (j + 1) (by decide) (by omega)
    rw [show 66 + 6 * 1 + (j + 1) = 73 + j by omega] at hk
    exact hn.u8 (73 + j) (by omega) hk
  clear hX p0
  go_enter Tryd.func14, Tryd.ntmps14
  go_wp2_with (rw [HX.out])
  go_loop [5, 6] (fun v i => ∃ k : Nat, k ≤ 5 ∧ i = .int .i64 ((k : Int) + 1) ∧ v = .int .i64 (hldK n 1 k)) (fun _ i => 6 - (intOf i).toNat)
  case atStart => exact ⟨0, by omega, rfl, rfl⟩
  case round =>
    obtain ⟨k, hk, rfl, rfl⟩ := hrel
    by_cases hlt : k < 5
    · have cc := HC.out k hlt
      obtain ⟨y0, y1⟩ := HN.out k hlt
      obtain ⟨h0, h1⟩ := HB.out k hk
      have HE := hideIt (show hldK n 1 (k + 1) = hldK n 1 k + n (73 + k) from rfl)
      generalize hldK n 1 k = hd at HE h0 h1
      generalize n (73 + k) = x at HE cc y0 y1
      go_wp2
      go_round
      case rel => exact ⟨k + 1, by omega, by go_num, by rw [HE.out]⟩
      case measure => simp [intOf]; omega
    · obtain rfl : k = 5 := by omega
      go_wp2
      go_ret
      exact ⟨ret_int HE0.out.symm, hb⟩


theorem held15_any (n : Nat → Int) (hn : PosOk n) (c : Nat) (hc : c ≤ 255) (w : World) : Calls Tryd.prog 13 #[.agg (posA n), .int .u8 (c : Int)] w fun e w' => e = .returned (.int .i64 (hldI n c)) ∧ Below w.heap.size w w' := by
  by_cases h : c ≤ 1
  · have : c = 0 ∨ c = 1 := by omega
    rcases this with rfl | rfl
    · exact held15_0 n hn w
    · exact held15_1 n hn w
  · have HE := hideIt (show hldI n c = 0 from if_neg h)
    have d1 : decide ((1 : Int) < c) = true := decide_eq_true (by omega)
    obtain ⟨X, hX⟩ : ∃ X, w.alloc (.cells (posA n) 31) = X := ⟨_, rfl⟩
    obtain ⟨p0, hb⟩ := box1 w n X hX
    have HX := hideIt hX
    clear hX
    go_enter Tryd.func13, Tryd.ntmps13
    go_wp2_with (rw [HX.out])
    go_ret
    exact ⟨ret_int HE.out.symm, hb⟩
theorem rheld15_any (n : Nat → Int) (hn : PosOk n) (c : Nat) (hc : c ≤ 255) (w : World) : Calls Tryd.prog 14 #[.agg (posA n), .int .u8 (c : Int)] w fun e w' => e = .returned (.int .i64 (hldI n c)) ∧ Below w.heap.size w w' := by
  by_cases h : c ≤ 1
  · have : c = 0 ∨ c = 1 := by omega
    rcases this with rfl | rfl
    · exact rheld15_0 n hn w
    · exact rheld15_1 n hn w
  · have HE := hideIt (show hldI n c = 0 from if_neg h)
    have d1 : decide ((c : Int) < 2) = false := decide_eq_false (by omega)
    obtain ⟨X, hX⟩ : ∃ X, w.alloc (.cells (posA n) 31) = X := ⟨_, rfl⟩
    obtain ⟨p0, hb⟩ := box1 w n X hX
    have HX := hideIt hX
    clear hX
    go_enter Tryd.func14, Tryd.ntmps14
    go_wp2_with (rw [HX.out])
    refine wp_loop_rounds 1 ?_
    rw [rounds_succ]
    go_wp2
    go_ret
    exact ⟨ret_int HE.out.symm, hb⟩

end Go.Proofs.YtkkabacdiefabaaDoor
