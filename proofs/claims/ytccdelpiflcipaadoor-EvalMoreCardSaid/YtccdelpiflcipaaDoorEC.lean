/- The walks of eval.Of and of the reference's; the reference's Side of any color. -/
import Derived.Test.YtccdelpiflcipaaDoorEA
import Derived.Test.YtccdelpiflcipaaDoorEB
import Derived.Deep.RegionHeld3
namespace Go.Proofs.YtccdelpiflcipaaDoor
open Go Go.RowKit
set_option linter.unusedVariables false

set_option maxHeartbeats 800000 in
theorem rside_no (n : Nat → Int) (hn : PosOk n) (v c : Nat) (hv : n 0 = v) (hv9 : v ≤ 255) (hc : c ≤ 255) (hk : knownB v c = false) (w : World) :
    Calls Tryd.prog 14 #[.agg (posA n), .int .u8 (c : Int)] w fun e w' => e = .returned (.int .i64 (worthI n v c)) ∧ Below w.heap.size w w' := by
  have HS := hideIt (worthI_no n v c hk)
  obtain ⟨X, hX⟩ : ∃ X, w.alloc (.cells (posA n) 31) = X := ⟨_, rfl⟩
  obtain ⟨p0, hb⟩ := box1 w n X hX
  have HX := hideIt hX
  have c0 : X.cell? ⟨w.heap.size, 0, none⟩ = some (.int .u8 v) := by rw [p0.cell 0 (by decide), hv]; rfl
  unfold knownB at hk
  rw [Bool.and_eq_false_iff, decide_eq_false_iff_not, decide_eq_false_iff_not] at hk
  clear hX
  by_cases h : v < 9
  · have d1 : decide ((8 : Int) < v) = false := decide_eq_false (by omega)
    have d2 : decide ((1 : Int) < c) = true := decide_eq_true (by omega)
    clear hk
    go_enter Tryd.func14, Tryd.ntmps14
    go_wp2_with (rw [HX.out])
    go_ret
    exact ⟨ret_int HS.out.symm, hb⟩
  · have d1 : decide ((8 : Int) < v) = true := decide_eq_true (by omega)
    clear hk
    go_enter Tryd.func14, Tryd.ntmps14
    go_wp2_with (rw [HX.out])
    go_ret
    exact ⟨ret_int HS.out.symm, hb⟩
theorem rside_any (n : Nat → Int) (hn : PosOk n) (v c : Nat) (hv : n 0 = v) (hv9 : v ≤ 255) (hc : c ≤ 255) (w : World) :
    Calls Tryd.prog 14 #[.agg (posA n), .int .u8 (c : Int)] w fun e w' => e = .returned (.int .i64 (worthI n v c)) ∧ Below w.heap.size w w' := by
  cases hk : knownB v c with
  | false => exact rside_no n hn v c hv hv9 hc hk w
  | true =>
    have h := hk
    unfold knownB at h
    rw [Bool.and_eq_true, decide_eq_true_eq, decide_eq_true_eq] at h
    obtain ⟨h1, h2⟩ := h
    have hc2 : c = 0 ∨ c = 1 := by omega
    rcases hc2 with rfl | rfl
    · exact rside_0 n hn v hv h1 w
    · exact rside_1 n hn v hv h1 w
theorem side_bd (n : Nat → Int) (hn : PosOk n) (v c : Nat) : -11000000 ≤ worthI n v c ∧ worthI n v c ≤ 11000000 := by
  unfold worthI
  split
  · rename_i h
    unfold knownB at h
    rw [Bool.and_eq_true, decide_eq_true_eq, decide_eq_true_eq] at h
    rw [← kinds_base]
    obtain ⟨h1, h2⟩ := kindsK_bd n c 6 (by decide)
    obtain ⟨h3, h4⟩ := exS_bd n hn c v h.2 5 (by decide)
    omega
  · omega
def clampI (x : Int) : Int := if 20000 < x then 20000 else if x < -20000 then -20000 else x
def signI (v : Nat) (x : Int) : Int := if v = 4 then -x else x
/-- A position's worth. -/
def ofW (n : Nat → Int) (v t : Nat) : Int := if knownB v t = true then clampI (signI v (worthI n v t - worthI n v (1 - t))) else 0
theorem ofW_no (n : Nat → Int) (v t : Nat) (h : knownB v t = false) : ofW n v t = 0 := by unfold ofW; rw [h]; rfl
theorem keepT {X W : World} {g : Nat} {n : Nat → Int} {t : Int} (h : PosAt X g n) (ht : n 78 = t) (hT : Tab X) (hb : Below X.heap.size X W) :
    (IsPos W g ∧ rowOf W g = posA n) ∧ W.cell? ⟨g, 78, none⟩ = some (.int .u8 t) ∧ Tab W ∧ Below X.heap.size X W :=
  ⟨(h.below hb h.lt).rules, by rw [(h.below hb h.lt).cell 78 (by decide), ht]; rfl, hT.below hb (Nat.le_refl _), hb⟩
theorem keepU {X W : World} {g : Nat} {n : Nat → Int} {t : Int} (h : PosAt X g n) (ht : n 78 = t) (hb : Below X.heap.size X W) :
    (IsPos W g ∧ rowOf W g = posA n) ∧ W.cell? ⟨g, 78, none⟩ = some (.int .u8 t) ∧ Below X.heap.size X W :=
  ⟨(h.below hb h.lt).rules, by rw [(h.below hb h.lt).cell 78 (by decide), ht]; rfl, hb⟩

set_option maxHeartbeats 1600000 in
theorem rof_no (n : Nat → Int) (v t : Nat) (hv : n 0 = v) (ht : n 78 = t) (hk : knownB v t = false) (w : World) :
    Calls Tryd.prog 16 #[.agg (posA n)] w fun e w' => e = .returned (.int .i64 (ofW n v t)) ∧ Below w.heap.size w w' := by
  have HS := hideIt (ofW_no n v t hk)
  obtain ⟨X, hX⟩ : ∃ X, w.alloc (.cells (posA n) 31) = X := ⟨_, rfl⟩
  obtain ⟨p0, hb⟩ := box1 w n X hX
  have HX := hideIt hX
  have c0 : X.cell? ⟨w.heap.size, 0, none⟩ = some (.int .u8 v) := by rw [p0.cell 0 (by decide), hv]; rfl
  have c78 : X.cell? ⟨w.heap.size, 78, none⟩ = some (.int .u8 t) := by rw [p0.cell 78 (by decide), ht]; rfl
  unfold knownB at hk
  rw [Bool.and_eq_false_iff, decide_eq_false_iff_not, decide_eq_false_iff_not] at hk
  clear hX
  by_cases h : v < 9
  · have d1 : decide ((8 : Int) < v) = false := decide_eq_false (by omega)
    have d2 : decide ((1 : Int) < t) = true := decide_eq_true (by omega)
    clear hk
    go_enter Tryd.func16, Tryd.ntmps16
    go_wp2_with (rw [HX.out])
    go_ret
    exact ⟨ret_int HS.out.symm, hb⟩
  · have d1 : decide ((8 : Int) < v) = true := decide_eq_true (by omega)
    clear hk
    go_enter Tryd.func16, Tryd.ntmps16
    go_wp2_with (rw [HX.out])
    go_ret
    exact ⟨ret_int HS.out.symm, hb⟩

set_option maxHeartbeats 3200000 in
theorem rof_0 (n : Nat → Int) (hn : PosOk n) (v : Nat) (hv : n 0 = v) (ht : n 78 = 0) (hv9 : v < 9) (w : World) :
    Calls Tryd.prog 16 #[.agg (posA n)] w fun e w' => e = .returned (.int .i64 (ofW n v 0)) ∧ Below w.heap.size w w' := by
  obtain ⟨x0, x1⟩ := side_bd n hn v 0
  obtain ⟨y0, y1⟩ := side_bd n hn v 1
  have hs : ofW n v 0 = clampI (signI v (worthI n v 0 - worthI n v 1)) := if_pos (by unfold knownB; rw [decide_eq_true hv9]; rfl)
  obtain ⟨a, ha⟩ : ∃ a, worthI n v 0 = a := ⟨_, rfl⟩
  obtain ⟨b, hb⟩ : ∃ b, worthI n v 1 = b := ⟨_, rfl⟩
  have F0 : ∀ W, Calls Tryd.prog 14 #[.agg (posA n), .int .u8 0] W fun e w' => e = .returned (.int .i64 a) ∧ Below W.heap.size W w' := fun W => by
    have := rside_0 n hn v hv hv9 W
    rwa [ha] at this
  have F1 : ∀ W, Calls Tryd.prog 14 #[.agg (posA n), .int .u8 1] W fun e w' => e = .returned (.int .i64 b) ∧ Below W.heap.size W w' := fun W => by
    have := rside_1 n hn v hv hv9 W
    rwa [hb] at this
  have G0 := hideIt F0
  have G1 := hideIt F1
  rw [ha, hb] at hs
  rw [ha] at x0 x1
  rw [hb] at y0 y1
  have HS := hideIt hs
  clear hs ha hb F0 F1
  obtain ⟨X, hX⟩ : ∃ X, w.alloc (.cells (posA n) 31) = X := ⟨_, rfl⟩
  obtain ⟨p0, hb⟩ := box1 w n X hX
  have HX := hideIt hX
  have c0 : X.cell? ⟨w.heap.size, 0, none⟩ = some (.int .u8 v) := by rw [p0.cell 0 (by decide), hv]; rfl
  have c78 : X.cell? ⟨w.heap.size, 78, none⟩ = some (.int .u8 0) := by rw [p0.cell 78 (by decide), ht]; rfl
  have HV := hideIt hv
  have HTT := hideIt ht
  have W1 : IntKind.u8.wrap 1 = 1 := by decide
  have d1 : decide ((8 : Int) < v) = false := decide_eq_false (by omega)
  have HP := hideIt p0
  clear hX hv ht p0
  go_enter Tryd.func16, Tryd.ntmps16
  go_wp2_with (rw [HX.out])
  clear c0 c78
  have W2 := IntWalk.i64_in (a - b) (by omega)
  go_region_held3 (fun W => (IsPos W w.heap.size ∧ rowOf W w.heap.size = posA n) ∧ W.cell? ⟨w.heap.size, 78, none⟩ = some (.int .u8 0) ∧ Below X.heap.size X W) ((refine keepU HP.out HTT.out ?_; repeat (first | exact Below.refl _ _ | assumption | refine bl_drew ?_ | refine bl_new ?_ (Nat.le_refl _) | refine bl_then ?_ (by assumption)))) ((first | (go_at_call_of 14 (Value.int IntKind.u8 0); refine (G0.out _).mono ?_; rintro e w31 ⟨rfl, h1⟩) | (go_at_call_of 14 (Value.int IntKind.u8 1); refine (G1.out _).mono ?_; rintro e w31 ⟨rfl, h1⟩)))
  all_goals
    have hq := And.right (And.right ‹(IsPos _ _ ∧ _) ∧ _ ∧ Below X.heap.size X _›)
    clear W2
    have c0 := (HP.out.below hq HP.out.lt).cell 0 (by decide)
    rw [HV.out, show kindAt 0 = IntKind.u8 from rfl] at c0
    obtain ⟨z, hz⟩ : ∃ z, a - b = z := ⟨_, rfl⟩
    have z0 : -22000000 ≤ z := by omega
    have z1 : z ≤ 22000000 := by omega
    rw [hz] at HS ⊢
    clear hz x0 x1 y0 y1 G0 G1
    by_cases h4 : v = 4
    · have d4 : ((v : Int) == 4) = true := beq_iff_eq.2 (by omega)
      have HS := hideIt (HS.out.trans (show _ = clampI (-z) by unfold signI; rw [if_pos h4]))
      clear h4
      go_wp2
      all_goals
        go_ret
        exact ⟨ret_int (by rw [HS.out]; unfold clampI; repeat (first | omega | split)), hb.trans (hq.mono hb.size)⟩
    · have d4 : ((v : Int) == 4) = false := beq_eq_false_iff_ne.2 (by omega)
      have HS := hideIt (HS.out.trans (show _ = clampI z by unfold signI; rw [if_neg h4]))
      clear h4
      go_wp2
      all_goals
        go_ret
        exact ⟨ret_int (by rw [HS.out]; unfold clampI; repeat (first | omega | split)), hb.trans (hq.mono hb.size)⟩

set_option maxHeartbeats 3200000 in
theorem rof_1 (n : Nat → Int) (hn : PosOk n) (v : Nat) (hv : n 0 = v) (ht : n 78 = 1) (hv9 : v < 9) (w : World) :
    Calls Tryd.prog 16 #[.agg (posA n)] w fun e w' => e = .returned (.int .i64 (ofW n v 1)) ∧ Below w.heap.size w w' := by
  obtain ⟨x0, x1⟩ := side_bd n hn v 1
  obtain ⟨y0, y1⟩ := side_bd n hn v 0
  have hs : ofW n v 1 = clampI (signI v (worthI n v 1 - worthI n v 0)) := if_pos (by unfold knownB; rw [decide_eq_true hv9]; rfl)
  obtain ⟨a, ha⟩ : ∃ a, worthI n v 1 = a := ⟨_, rfl⟩
  obtain ⟨b, hb⟩ : ∃ b, worthI n v 0 = b := ⟨_, rfl⟩
  have F0 : ∀ W, Calls Tryd.prog 14 #[.agg (posA n), .int .u8 1] W fun e w' => e = .returned (.int .i64 a) ∧ Below W.heap.size W w' := fun W => by
    have := rside_1 n hn v hv hv9 W
    rwa [ha] at this
  have F1 : ∀ W, Calls Tryd.prog 14 #[.agg (posA n), .int .u8 0] W fun e w' => e = .returned (.int .i64 b) ∧ Below W.heap.size W w' := fun W => by
    have := rside_0 n hn v hv hv9 W
    rwa [hb] at this
  have G0 := hideIt F0
  have G1 := hideIt F1
  rw [ha, hb] at hs
  rw [ha] at x0 x1
  rw [hb] at y0 y1
  have HS := hideIt hs
  clear hs ha hb F0 F1
  obtain ⟨X, hX⟩ : ∃ X, w.alloc (.cells (posA n) 31) = X := ⟨_, rfl⟩
  obtain ⟨p0, hb⟩ := box1 w n X hX
  have HX := hideIt hX
  have c0 : X.cell? ⟨w.heap.size, 0, none⟩ = some (.int .u8 v) := by rw [p0.cell 0 (by decide), hv]; rfl
  have c78 : X.cell? ⟨w.heap.size, 78, none⟩ = some (.int .u8 1) := by rw [p0.cell 78 (by decide), ht]; rfl
  have HV := hideIt hv
  have HTT := hideIt ht
  have W1 : IntKind.u8.wrap 0 = 0 := by decide
  have d1 : decide ((8 : Int) < v) = false := decide_eq_false (by omega)
  have HP := hideIt p0
  clear hX hv ht p0
  go_enter Tryd.func16, Tryd.ntmps16
  go_wp2_with (rw [HX.out])
  clear c0 c78
  have W2 := IntWalk.i64_in (a - b) (by omega)
  go_region_held3 (fun W => (IsPos W w.heap.size ∧ rowOf W w.heap.size = posA n) ∧ W.cell? ⟨w.heap.size, 78, none⟩ = some (.int .u8 1) ∧ Below X.heap.size X W) ((refine keepU HP.out HTT.out ?_; repeat (first | exact Below.refl _ _ | assumption | refine bl_drew ?_ | refine bl_new ?_ (Nat.le_refl _) | refine bl_then ?_ (by assumption)))) ((first | (go_at_call_of 14 (Value.int IntKind.u8 1); refine (G0.out _).mono ?_; rintro e w31 ⟨rfl, h1⟩) | (go_at_call_of 14 (Value.int IntKind.u8 0); refine (G1.out _).mono ?_; rintro e w31 ⟨rfl, h1⟩)))
  all_goals
    have hq := And.right (And.right ‹(IsPos _ _ ∧ _) ∧ _ ∧ Below X.heap.size X _›)
    clear W2
    have c0 := (HP.out.below hq HP.out.lt).cell 0 (by decide)
    rw [HV.out, show kindAt 0 = IntKind.u8 from rfl] at c0
    obtain ⟨z, hz⟩ : ∃ z, a - b = z := ⟨_, rfl⟩
    have z0 : -22000000 ≤ z := by omega
    have z1 : z ≤ 22000000 := by omega
    rw [hz] at HS ⊢
    clear hz x0 x1 y0 y1 G0 G1
    by_cases h4 : v = 4
    · have d4 : ((v : Int) == 4) = true := beq_iff_eq.2 (by omega)
      have HS := hideIt (HS.out.trans (show _ = clampI (-z) by unfold signI; rw [if_pos h4]))
      clear h4
      go_wp2
      all_goals
        go_ret
        exact ⟨ret_int (by rw [HS.out]; unfold clampI; repeat (first | omega | split)), hb.trans (hq.mono hb.size)⟩
    · have d4 : ((v : Int) == 4) = false := beq_eq_false_iff_ne.2 (by omega)
      have HS := hideIt (HS.out.trans (show _ = clampI z by unfold signI; rw [if_neg h4]))
      clear h4
      go_wp2
      all_goals
        go_ret
        exact ⟨ret_int (by rw [HS.out]; unfold clampI; repeat (first | omega | split)), hb.trans (hq.mono hb.size)⟩

set_option maxHeartbeats 3200000 in
theorem pof_0 (n : Nat → Int) (hn : PosOk n) (v : Nat) (hv : n 0 = v) (ht : n 78 = 0) (hv9 : v < 9) (w : World) (hT : Tab w) :
    Calls Tryd.prog 15 #[.agg (posA n)] w fun e w' => e = .returned (.int .i64 (ofW n v 0)) ∧ Below w.heap.size w w' := by
  obtain ⟨x0, x1⟩ := side_bd n hn v 0
  obtain ⟨y0, y1⟩ := side_bd n hn v 1
  have hs : ofW n v 0 = clampI (signI v (worthI n v 0 - worthI n v 1)) := if_pos (by unfold knownB; rw [decide_eq_true hv9]; rfl)
  obtain ⟨a, ha⟩ : ∃ a, worthI n v 0 = a := ⟨_, rfl⟩
  obtain ⟨b, hb⟩ : ∃ b, worthI n v 1 = b := ⟨_, rfl⟩
  have F0 : ∀ W, Tab W → Calls Tryd.prog 13 #[.agg (posA n), .int .u8 0] W fun e w' => e = .returned (.int .i64 a) ∧ Below W.heap.size W w' := fun W hTW => by
    have := side_0 n hn v hv hv9 W hTW
    rwa [ha] at this
  have F1 : ∀ W, Tab W → Calls Tryd.prog 13 #[.agg (posA n), .int .u8 1] W fun e w' => e = .returned (.int .i64 b) ∧ Below W.heap.size W w' := fun W hTW => by
    have := side_1 n hn v hv hv9 W hTW
    rwa [hb] at this
  have G0 := hideIt F0
  have G1 := hideIt F1
  rw [ha, hb] at hs
  rw [ha] at x0 x1
  rw [hb] at y0 y1
  have HS := hideIt hs
  clear hs ha hb F0 F1
  obtain ⟨X, hX⟩ : ∃ X, w.alloc (.cells (posA n) 31) = X := ⟨_, rfl⟩
  obtain ⟨p0, hb⟩ := box1 w n X hX
  have HX := hideIt hX
  have c0 : X.cell? ⟨w.heap.size, 0, none⟩ = some (.int .u8 v) := by rw [p0.cell 0 (by decide), hv]; rfl
  have c78 : X.cell? ⟨w.heap.size, 78, none⟩ = some (.int .u8 0) := by rw [p0.cell 78 (by decide), ht]; rfl
  have HV := hideIt hv
  have HTT := hideIt ht
  have W1 : IntKind.u8.wrap 1 = 1 := by decide
  have HK := hideIt (show knownB v 0 = true by unfold knownB; rw [decide_eq_true hv9]; rfl)
  have HTX := hT.below hb (Nat.le_refl _)
  have HP0 := hideIt p0
  clear hX hv ht p0 hT
  go_enter Tryd.func15, Tryd.ntmps15
  go_wp2_with (rw [HX.out])
  refine (known_any v 0 (by omega) (by decide) _).mono ?_
  rw [HK.out]
  rintro e Y ⟨rfl, h1⟩
  have HP := hideIt (HP0.out.below h1 HP0.out.lt)
  have HT := hideIt (HTX.below h1 (Nat.le_refl _))
  have hb := hb.trans (h1.mono hb.size)
  clear h1 c0 c78 HP0 HTX
  have c78 : Y.cell? ⟨w.heap.size, 78, none⟩ = some (.int .u8 0) := by rw [HP.out.cell 78 (by decide), HTT.out]; rfl
  go_wp2
  clear c78
  have W2 := IntWalk.i64_in (a - b) (by omega)
  go_region_held3 (fun W => (IsPos W w.heap.size ∧ rowOf W w.heap.size = posA n) ∧ W.cell? ⟨w.heap.size, 78, none⟩ = some (.int .u8 0) ∧ Tab W ∧ Below Y.heap.size Y W) ((refine keepT HP.out HTT.out HT.out ?_; repeat (first | exact Below.refl _ _ | assumption | refine bl_drew ?_ | refine bl_new ?_ (Nat.le_refl _) | refine bl_then ?_ (by assumption)))) ((first | (go_at_call_of 13 (Value.int IntKind.u8 0); refine (G0.out _ (And.left (And.right (And.right ‹(IsPos _ _ ∧ _) ∧ _ ∧ Tab _ ∧ _›)))).mono ?_; rintro e w31 ⟨rfl, h1⟩) | (go_at_call_of 13 (Value.int IntKind.u8 1); refine (G1.out _ (And.left (And.right (And.right ‹(IsPos _ _ ∧ _) ∧ _ ∧ Tab _ ∧ _›)))).mono ?_; rintro e w31 ⟨rfl, h1⟩)))
  all_goals
    have hq := And.right (And.right (And.right ‹(IsPos _ _ ∧ _) ∧ _ ∧ Tab _ ∧ Below Y.heap.size Y _›))
    clear W2
    have c0 := (HP.out.below hq HP.out.lt).cell 0 (by decide)
    rw [HV.out, show kindAt 0 = IntKind.u8 from rfl] at c0
    obtain ⟨z, hz⟩ : ∃ z, a - b = z := ⟨_, rfl⟩
    have z0 : -22000000 ≤ z := by omega
    have z1 : z ≤ 22000000 := by omega
    rw [hz] at HS ⊢
    clear hz x0 x1 y0 y1 G0 G1
    by_cases h4 : v = 4
    · have d4 : ((v : Int) == 4) = true := beq_iff_eq.2 (by omega)
      have HS := hideIt (HS.out.trans (show _ = clampI (-z) by unfold signI; rw [if_pos h4]))
      clear h4
      go_wp2
      all_goals
        go_ret
        exact ⟨ret_int (by rw [HS.out]; unfold clampI; repeat (first | omega | split)), hb.trans (hq.mono hb.size)⟩
    · have d4 : ((v : Int) == 4) = false := beq_eq_false_iff_ne.2 (by omega)
      have HS := hideIt (HS.out.trans (show _ = clampI z by unfold signI; rw [if_neg h4]))
      clear h4
      go_wp2
      all_goals
        go_ret
        exact ⟨ret_int (by rw [HS.out]; unfold clampI; repeat (first | omega | split)), hb.trans (hq.mono hb.size)⟩

set_option maxHeartbeats 3200000 in
theorem pof_1 (n : Nat → Int) (hn : PosOk n) (v : Nat) (hv : n 0 = v) (ht : n 78 = 1) (hv9 : v < 9) (w : World) (hT : Tab w) :
    Calls Tryd.prog 15 #[.agg (posA n)] w fun e w' => e = .returned (.int .i64 (ofW n v 1)) ∧ Below w.heap.size w w' := by
  obtain ⟨x0, x1⟩ := side_bd n hn v 1
  obtain ⟨y0, y1⟩ := side_bd n hn v 0
  have hs : ofW n v 1 = clampI (signI v (worthI n v 1 - worthI n v 0)) := if_pos (by unfold knownB; rw [decide_eq_true hv9]; rfl)
  obtain ⟨a, ha⟩ : ∃ a, worthI n v 1 = a := ⟨_, rfl⟩
  obtain ⟨b, hb⟩ : ∃ b, worthI n v 0 = b := ⟨_, rfl⟩
  have F0 : ∀ W, Tab W → Calls Tryd.prog 13 #[.agg (posA n), .int .u8 1] W fun e w' => e = .returned (.int .i64 a) ∧ Below W.heap.size W w' := fun W hTW => by
    have := side_1 n hn v hv hv9 W hTW
    rwa [ha] at this
  have F1 : ∀ W, Tab W → Calls Tryd.prog 13 #[.agg (posA n), .int .u8 0] W fun e w' => e = .returned (.int .i64 b) ∧ Below W.heap.size W w' := fun W hTW => by
    have := side_0 n hn v hv hv9 W hTW
    rwa [hb] at this
  have G0 := hideIt F0
  have G1 := hideIt F1
  rw [ha, hb] at hs
  rw [ha] at x0 x1
  rw [hb] at y0 y1
  have HS := hideIt hs
  clear hs ha hb F0 F1
  obtain ⟨X, hX⟩ : ∃ X, w.alloc (.cells (posA n) 31) = X := ⟨_, rfl⟩
  obtain ⟨p0, hb⟩ := box1 w n X hX
  have HX := hideIt hX
  have c0 : X.cell? ⟨w.heap.size, 0, none⟩ = some (.int .u8 v) := by rw [p0.cell 0 (by decide), hv]; rfl
  have c78 : X.cell? ⟨w.heap.size, 78, none⟩ = some (.int .u8 1) := by rw [p0.cell 78 (by decide), ht]; rfl
  have HV := hideIt hv
  have HTT := hideIt ht
  have W1 : IntKind.u8.wrap 0 = 0 := by decide
  have HK := hideIt (show knownB v 1 = true by unfold knownB; rw [decide_eq_true hv9]; rfl)
  have HTX := hT.below hb (Nat.le_refl _)
  have HP0 := hideIt p0
  clear hX hv ht p0 hT
  go_enter Tryd.func15, Tryd.ntmps15
  go_wp2_with (rw [HX.out])
  refine (known_any v 1 (by omega) (by decide) _).mono ?_
  rw [HK.out]
  rintro e Y ⟨rfl, h1⟩
  have HP := hideIt (HP0.out.below h1 HP0.out.lt)
  have HT := hideIt (HTX.below h1 (Nat.le_refl _))
  have hb := hb.trans (h1.mono hb.size)
  clear h1 c0 c78 HP0 HTX
  have c78 : Y.cell? ⟨w.heap.size, 78, none⟩ = some (.int .u8 1) := by rw [HP.out.cell 78 (by decide), HTT.out]; rfl
  go_wp2
  clear c78
  have W2 := IntWalk.i64_in (a - b) (by omega)
  go_region_held3 (fun W => (IsPos W w.heap.size ∧ rowOf W w.heap.size = posA n) ∧ W.cell? ⟨w.heap.size, 78, none⟩ = some (.int .u8 1) ∧ Tab W ∧ Below Y.heap.size Y W) ((refine keepT HP.out HTT.out HT.out ?_; repeat (first | exact Below.refl _ _ | assumption | refine bl_drew ?_ | refine bl_new ?_ (Nat.le_refl _) | refine bl_then ?_ (by assumption)))) ((first | (go_at_call_of 13 (Value.int IntKind.u8 1); refine (G0.out _ (And.left (And.right (And.right ‹(IsPos _ _ ∧ _) ∧ _ ∧ Tab _ ∧ _›)))).mono ?_; rintro e w31 ⟨rfl, h1⟩) | (go_at_call_of 13 (Value.int IntKind.u8 0); refine (G1.out _ (And.left (And.right (And.right ‹(IsPos _ _ ∧ _) ∧ _ ∧ Tab _ ∧ _›)))).mono ?_; rintro e w31 ⟨rfl, h1⟩)))
  all_goals
    have hq := And.right (And.right (And.right ‹(IsPos _ _ ∧ _) ∧ _ ∧ Tab _ ∧ Below Y.heap.size Y _›))
    clear W2
    have c0 := (HP.out.below hq HP.out.lt).cell 0 (by decide)
    rw [HV.out, show kindAt 0 = IntKind.u8 from rfl] at c0
    obtain ⟨z, hz⟩ : ∃ z, a - b = z := ⟨_, rfl⟩
    have z0 : -22000000 ≤ z := by omega
    have z1 : z ≤ 22000000 := by omega
    rw [hz] at HS ⊢
    clear hz x0 x1 y0 y1 G0 G1
    by_cases h4 : v = 4
    · have d4 : ((v : Int) == 4) = true := beq_iff_eq.2 (by omega)
      have HS := hideIt (HS.out.trans (show _ = clampI (-z) by unfold signI; rw [if_pos h4]))
      clear h4
      go_wp2
      all_goals
        go_ret
        exact ⟨ret_int (by rw [HS.out]; unfold clampI; repeat (first | omega | split)), hb.trans (hq.mono hb.size)⟩
    · have d4 : ((v : Int) == 4) = false := beq_eq_false_iff_ne.2 (by omega)
      have HS := hideIt (HS.out.trans (show _ = clampI z by unfold signI; rw [if_neg h4]))
      clear h4
      go_wp2
      all_goals
        go_ret
        exact ⟨ret_int (by rw [HS.out]; unfold clampI; repeat (first | omega | split)), hb.trans (hq.mono hb.size)⟩

set_option maxHeartbeats 800000 in
theorem pof_no (n : Nat → Int) (v t : Nat) (hv : n 0 = v) (ht : n 78 = t) (hv9 : v ≤ 255) (ht9 : t ≤ 255) (hk : knownB v t = false) (w : World) :
    Calls Tryd.prog 15 #[.agg (posA n)] w fun e w' => e = .returned (.int .i64 (ofW n v t)) ∧ Below w.heap.size w w' := by
  have HS := hideIt (ofW_no n v t hk)
  have HK := hideIt hk
  obtain ⟨X, hX⟩ : ∃ X, w.alloc (.cells (posA n) 31) = X := ⟨_, rfl⟩
  obtain ⟨p0, hb⟩ := box1 w n X hX
  have HX := hideIt hX
  have c0 : X.cell? ⟨w.heap.size, 0, none⟩ = some (.int .u8 v) := by rw [p0.cell 0 (by decide), hv]; rfl
  have c78 : X.cell? ⟨w.heap.size, 78, none⟩ = some (.int .u8 t) := by rw [p0.cell 78 (by decide), ht]; rfl
  clear hX hk
  go_enter Tryd.func15, Tryd.ntmps15
  go_wp2_with (rw [HX.out])
  refine (known_any v t hv9 ht9 _).mono ?_
  rw [HK.out]
  rintro e Y ⟨rfl, h1⟩
  have hb := hb.trans (h1.mono hb.size)
  clear h1 c0 c78
  go_wp2
  go_ret
  exact ⟨ret_int HS.out.symm, hb⟩
theorem pof_any (n : Nat → Int) (hn : PosOk n) (v t : Nat) (hv : n 0 = v) (ht : n 78 = t) (hv9 : v ≤ 255) (ht9 : t ≤ 255) (w : World) (hT : Tab w) :
    Calls Tryd.prog 15 #[.agg (posA n)] w fun e w' => e = .returned (.int .i64 (ofW n v t)) ∧ Below w.heap.size w w' := by
  cases hk : knownB v t with
  | false => exact pof_no n v t hv ht hv9 ht9 hk w
  | true =>
    unfold knownB at hk
    rw [Bool.and_eq_true, decide_eq_true_eq, decide_eq_true_eq] at hk
    obtain ⟨h1, h2⟩ := hk
    have hc2 : t = 0 ∨ t = 1 := by omega
    rcases hc2 with rfl | rfl
    · exact pof_0 n hn v hv ht h1 w hT
    · exact pof_1 n hn v hv ht h1 w hT
theorem rof_any24 (n : Nat → Int) (hn : PosOk n) (v t : Nat) (hv : n 0 = v) (ht : n 78 = t) (hv9 : v ≤ 255) (ht9 : t ≤ 255) (w : World) :
    Calls Tryd.prog 16 #[.agg (posA n)] w fun e w' => e = .returned (.int .i64 (ofW n v t)) ∧ Below w.heap.size w w' := by
  cases hk : knownB v t with
  | false => exact rof_no n v t hv ht hk w
  | true =>
    unfold knownB at hk
    rw [Bool.and_eq_true, decide_eq_true_eq, decide_eq_true_eq] at hk
    obtain ⟨h1, h2⟩ := hk
    have hc2 : t = 0 ∨ t = 1 := by omega
    rcases hc2 with rfl | rfl
    · exact rof_0 n hn v hv ht h1 w
    · exact rof_1 n hn v hv ht h1 w

end Go.Proofs.YtccdelpiflcipaaDoor
