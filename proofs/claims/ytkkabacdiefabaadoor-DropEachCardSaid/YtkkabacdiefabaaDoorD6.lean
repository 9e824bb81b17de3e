/- The walk of the reference's List of drops (written by gen_d6.py). -/
import Derived.Test.YtkkabacdiefabaaDoorD4
import Derived.Deep.LoopGhost
namespace Go.Proofs.YtkkabacdiefabaaDoor
open Go Go.RowKit
set_option linter.unusedVariables false

theorem mid_bit : ∀ j : Fin 64, midB.getLsbD j.val = !(decide (j.val < 8) || decide (55 < j.val)) := by decide +kernel
theorem wh_bit (n : Nat → Int) (k j : Nat) (hj : j < 64) : (whB n (k + 1)).getLsbD j = (!isB (n (1 + j)) && !(decide (k = 0) && (decide (j < 8) || decide (55 < j)))) := by
  have ha := all_bit n j hj
  unfold whB
  by_cases h : k = 0
  · rw [if_pos (by omega), BitVec.getLsbD_and, BitVec.getLsbD_not, ha, mid_bit ⟨j, hj⟩, decide_eq_true hj, decide_eq_true h]; simp
  · rw [if_neg (by omega), BitVec.getLsbD_not, ha, decide_eq_true hj, decide_eq_false h]; simp
def mvN (b : BitVec 64) (k : Int) (j : Nat) : List Mv := (listN b j).map (fun s : Nat => dmv s k)
theorem mvN_yes (b : BitVec 64) (k : Int) (j : Nat) (h : b.getLsbD j = true) : mvN b k (j + 1) = mvN b k j ++ [dmv j k] := by
  unfold mvN; rw [listN_succ_yes _ _ h, List.map_append]; rfl
theorem mvN_no (b : BitVec 64) (k : Int) (j : Nat) (h : b.getLsbD j = false) : mvN b k (j + 1) = mvN b k j := by
  unfold mvN; rw [listN_succ_no _ _ h]
theorem mvN_64 (b : BitVec 64) (k : Int) : mvN b k 64 = (listB b).map (fun s => dmv s k) := by
  unfold mvN listB; rw [List.map_map]; rfl
theorem mvN_len (b : BitVec 64) (k : Int) (j : Nat) : (mvN b k j).length ≤ j := by
  unfold mvN; rw [List.length_map]; exact listN_le b j


set_option maxRecDepth 100000 in
set_option maxHeartbeats 4000000 in
theorem rdroplist_0 (n : Nat → Int) (hn : PosOk n) (hv : n 0 = 2) (ht : n 78 = 0) (w : World) :
    Calls Tryd.prog 11 #[.agg (posA n)] w fun e w' => ∃ v, e = .returned v ∧ OwnsM w' w.heap.size v (dropK n 0 5) ∧ Below w.heap.size w w' := by
  obtain ⟨i0, hi, hz0, hz1, hz2⟩ := info_parts infoM
  obtain ⟨X, hX⟩ : ∃ X, w.alloc (.cells (posA n) 31) = X := ⟨_, rfl⟩
  obtain ⟨p0, hb⟩ := box1 w n X hX
  have HX := hideIt hX
  have c0 : X.cell? ⟨w.heap.size, 0, none⟩ = some (.int .u8 2) := by rw [p0.cell 0 (by decide), hv]; rfl
  have c78 : X.cell? ⟨w.heap.size, 78, none⟩ = some (.int .u8 0) := by rw [p0.cell 78 (by decide), ht]; rfl
  have HTT := hideIt ht
  have HP := hideIt p0
  clear hX hv ht p0
  go_enter Tryd.func11, Tryd.ntmps11
  go_wp2_with (rw [HX.out])
  clear c0 c78
  go_loopg [3, 4] 5 (fun gk v i wr => ∃ k : Nat, k + gk = 5 ∧ i = .int .u8 ((k : Int) + 1) ∧ OwnsM wr X.heap.size v (dropK n 0 k) ∧ Below X.heap.size X wr)
  case atStart => exact ⟨0, rfl, rfl, World.ownsRow_nil _ _ _ _, Below.refl _ _⟩
  case round =>
    obtain ⟨k, hgk, rfl, hown, hr⟩ := hrel
    by_cases hlt : k < 5
    · have hk8 : kindAt (67 + k) = .u8 := by
        have := kind_pock 0 (k + 1) (by decide) (by omega)
        rwa [show 66 + 6 * 0 + (k + 1) = 67 + k by omega] at this
      have HCK : Hid (∀ W, Below X.heap.size X W → W.cell? ⟨w.heap.size, 78, none⟩ = some (.int .u8 0) ∧ W.cell? ⟨w.heap.size, 66 + (k + 1), none⟩ = some (.int .u8 (n (67 + k)))) := fun W hW => by
        have pr := HP.out.below hW HP.out.lt
        refine ⟨by rw [pr.cell 78 (by decide), HTT.out]; rfl, ?_⟩
        have := pr.cell (67 + k) (by omega)
        rw [show 66 + (k + 1) = 67 + k by omega]
        rwa [hk8] at this
      obtain ⟨y0, y1⟩ := hn.u8 (67 + k) (by omega) hk8
      have HS := hideIt (show dropK n 0 (k + 1) = dropK n 0 k ++ (if n (67 + k) = 0 then [] else (listB (whB n (k + 1))).map (fun s => dmv s ((k : Int) + 1))) from rfl)
      have hdl := dropK_len n 0 k
      obtain ⟨pk, hpk⟩ : ∃ x, n (67 + k) = x := ⟨_, rfl⟩
      rw [hpk] at HCK HS y0 y1
      clear hpk hk8
      have dk : decide ((k : Int) + 1 ≤ 5) = true := decide_eq_true (by omega)
      by_cases h0 : pk = 0
      · have d0 : decide (0 < pk) = false := decide_eq_false (by omega)
        have HS := hideIt (HS.out.trans (by rw [if_pos h0, List.append_nil]))
        obtain ⟨c78, ck⟩ := HCK.out _ hr
        clear h0
        go_wp2
        refine wp_loop_rounds 1 ?_
        rw [rounds_succ]
        go_wp2
        go_roundg (5 - (k + 1))
        case measure => omega
        case rel => exact ⟨k + 1, by omega, by go_num, by rw [HS.out]; exact hown, hr⟩
      · have d0 : decide (0 < pk) = true := decide_eq_true (by omega)
        have HS := hideIt (HS.out.trans (by rw [if_neg h0, ← mvN_64]))
        have HB := hideIt (fun j (hj : j < 64) => wh_bit n k j hj)
        clear h0
        generalize dropK n 0 k = acc at HS hdl hown
        generalize whB n (k + 1) = wb at HS HB
        have HOWN := hideIt hown
        have HR := hideIt hr
        clear hown hr
        go_wp2
        go_loopg [3, 5] 64 (fun g2 v i wy => ∃ j : Nat, j + g2 = 64 ∧ i = .int .i64 j ∧ OwnsM wy X.heap.size v (acc ++ mvN wb ((k : Int) + 1) j) ∧ Below X.heap.size X wy)
        case atStart => exact ⟨0, rfl, rfl, by show OwnsM _ _ _ (acc ++ []); rw [List.append_nil]; exact HOWN.out, HR.out⟩
        case round =>
          clear HOWN HR
          obtain ⟨j, hgj, rfl, hown, hr4⟩ := hrel
          obtain ⟨c78, ck⟩ := HCK.out _ hr4
          by_cases hj : j < 64
          · have hbit := HB.out j hj
            have pr := HP.out.below hr4 HP.out.lt
            have cb := pr.board (1 + j) (by omega)
            obtain ⟨x0, x1⟩ := hn.u8 (1 + j) (by omega) (kind_board (by omega))
            have hz := knd_zero (n (1 + j))
            have HYS := hideIt (mvN_yes wb ((k : Int) + 1) j)
            have HNO := hideIt (mvN_no wb ((k : Int) + 1) j)
            have hlen : (acc ++ mvN wb ((k : Int) + 1) j).length ≤ 400 := by
              have := mvN_len wb ((k : Int) + 1) j
              rw [List.length_append]; omega
            have hsy := hr4.size
            generalize hml : acc ++ mvN wb ((k : Int) + 1) j = ml at hown hlen
            have HML := hideIt hml
            obtain ⟨x, hx⟩ : ∃ x, n (1 + j) = x := ⟨_, rfl⟩
            rw [hx] at cb x0 x1 hbit hz
            clear hx pr hml
            cases hi2 : isB x with
            | true =>
              rw [hi2] at hbit hz
              have HN := hideIt (HNO.out (by rw [hbit]; rfl))
              clear hbit hi2 HNO HYS
              go_wp2_with fail
              refine (k8_any x x0 x1 _).mono ?_
              rintro e w6 ⟨rfl, rfl⟩
              go_wp2
              go_roundg (64 - (j + 1))
              case measure => omega
              case rel => exact ⟨j + 1, by omega, by go_num, by rw [HN.out, HML.out]; exact hown, hr4⟩
            | false =>
              rw [hi2] at hbit hz
              by_cases hk1 : k = 0
              · have d1 : ((k : Int) + 1 == 1) = true := beq_iff_eq.2 (by omega)
                rw [decide_eq_true hk1] at hbit
                by_cases h8 : j < 8
                · have HN := hideIt (HNO.out (by rw [hbit, decide_eq_true h8]; rfl))
                  clear hbit hi2 HNO HYS hk1
                  go_wp2_with fail
                  refine (k8_any x x0 x1 _).mono ?_
                  rintro e w6 ⟨rfl, rfl⟩
                  go_wp2
                  go_roundg (64 - (j + 1))
                  case measure => omega
                  case rel => exact ⟨j + 1, by omega, by go_num, by rw [HN.out, HML.out]; exact hown, hr4⟩
                · by_cases h55 : 55 < j
                  · have HN := hideIt (HNO.out (by rw [hbit, decide_eq_true h55, Bool.or_true]; rfl))
                    have d8 : decide ((j : Int) < 8) = false := decide_eq_false (by omega)
                    have d55 : decide ((55 : Int) < j) = true := decide_eq_true (by omega)
                    clear hbit hi2 HNO HYS hk1 h8
                    go_wp2_with fail
                    refine (k8_any x x0 x1 _).mono ?_
                    rintro e w6 ⟨rfl, rfl⟩
                    go_wp2
                    go_roundg (64 - (j + 1))
                    case measure => omega
                    case rel => exact ⟨j + 1, by omega, by go_num, by rw [HN.out, HML.out]; exact hown, hr4⟩
                  · have HN := hideIt (HYS.out (by rw [hbit, decide_eq_false h8, decide_eq_false h55]; rfl))
                    have d8 : decide ((j : Int) < 8) = false := decide_eq_false (by omega)
                    have d55 : decide ((55 : Int) < j) = false := decide_eq_false (by omega)
                    clear hbit hi2 HNO HYS hk1 h8 h55
                    go_wp2_with fail
                    refine (k8_any x x0 x1 _).mono ?_
                    rintro e w6 ⟨rfl, rfl⟩
                    have W1 : IntKind.i8.wrap (j : Int) = (j : Int) := IntWalk.i8_in _ (by omega)
                    have bld : ∀ w, (Instr.build 45 #[(0, .int .i8 (j : Int)), (1, .int .i8 (j : Int)), (3, .int .u8 ((k : Int) + 1))]).run Tryd.prog w = .ok (.agg #[.int .i8 (j : Int), .int .i8 (j : Int), .int .u8 0, .int .u8 ((k : Int) + 1), .bool false]) w := fun _ => by kernel_rfl
                    go_wp2_with (at_builtin; refine wpList_append_own _ rfl _ _ 33 rfl X.heap.size 45 i0 (.agg #[.int .i8 0, .int .i8 0, .int .u8 0, .int .u8 0, .bool false]) 5 5 Tryd.underlying33 hi hz0 hz1 hz2 rfl (by decide) _ _ _ rfl (World.ownsRow.alloc hown _) ⟨wr.heap.size, 0, none⟩ 1 1 (dmv (j : Int) ((k : Int) + 1)).cells rfl rfl (cells5_new _ _ _ _ _ _ _) (by simp [dmv, Mv.cells, Value.oneCell']) (by unfold maxLen; omega) (by omega) (by simp; omega) ?_; intro v' w5 hown' hgrow3 _)
                    go_roundg (64 - (j + 1))
                    case measure => omega
                    case rel => exact ⟨j + 1, by omega, by go_num, by rw [HN.out, ← List.append_assoc, HML.out]; exact OwnsM.app hown', OwnsM.grown hown hr4 hsy _ hgrow3⟩
              · have d1 : ((k : Int) + 1 == 1) = false := beq_eq_false_iff_ne.2 (by omega)
                rw [decide_eq_false hk1] at hbit
                have HN := hideIt (HYS.out (by rw [hbit]; rfl))
                clear hbit hi2 HNO HYS hk1
                go_wp2_with fail
                refine (k8_any x x0 x1 _).mono ?_
                rintro e w6 ⟨rfl, rfl⟩
                have W1 : IntKind.i8.wrap (j : Int) = (j : Int) := IntWalk.i8_in _ (by omega)
                have bld : ∀ w, (Instr.build 45 #[(0, .int .i8 (j : Int)), (1, .int .i8 (j : Int)), (3, .int .u8 ((k : Int) + 1))]).run Tryd.prog w = .ok (.agg #[.int .i8 (j : Int), .int .i8 (j : Int), .int .u8 0, .int .u8 ((k : Int) + 1), .bool false]) w := fun _ => by kernel_rfl
                go_wp2_with (at_builtin; refine wpList_append_own _ rfl _ _ 33 rfl X.heap.size 45 i0 (.agg #[.int .i8 0, .int .i8 0, .int .u8 0, .int .u8 0, .bool false]) 5 5 Tryd.underlying33 hi hz0 hz1 hz2 rfl (by decide) _ _ _ rfl (World.ownsRow.alloc hown _) ⟨wr.heap.size, 0, none⟩ 1 1 (dmv (j : Int) ((k : Int) + 1)).cells rfl rfl (cells5_new _ _ _ _ _ _ _) (by simp [dmv, Mv.cells, Value.oneCell']) (by unfold maxLen; omega) (by omega) (by simp; omega) ?_; intro v' w5 hown' hgrow3 _)
                go_roundg (64 - (j + 1))
                case measure => omega
                case rel => exact ⟨j + 1, by omega, by go_num, by rw [HN.out, ← List.append_assoc, HML.out]; exact OwnsM.app hown', OwnsM.grown hown hr4 hsy _ hgrow3⟩
          · obtain rfl : j = 64 := by omega
            go_wp2
            go_roundg (5 - (k + 1))
            case measure => omega
            case rel => exact ⟨k + 1, by omega, by go_num, by rw [HS.out]; exact hown, hr4⟩
    · obtain rfl : k = 5 := by omega
      go_wp2
      go_ret
      exact ⟨_, rfl, hown.less hb.size, hb.trans (hr.mono hb.size)⟩


set_option maxRecDepth 100000 in
set_option maxHeartbeats 4000000 in
theorem rdroplist_1 (n : Nat → Int) (hn : PosOk n) (hv : n 0 = 2) (ht : n 78 = 1) (w : World) :
    Calls Tryd.prog 11 #[.agg (posA n)] w fun e w' => ∃ v, e = .returned v ∧ OwnsM w' w.heap.size v (dropK n 1 5) ∧ Below w.heap.size w w' := by
  obtain ⟨i0, hi, hz0, hz1, hz2⟩ := info_parts infoM
  obtain ⟨X, hX⟩ : ∃ X, w.alloc (.cells (posA n) 31) = X := ⟨_, rfl⟩
  obtain ⟨p0, hb⟩ := box1 w n X hX
  have HX := hideIt hX
  have c0 : X.cell? ⟨w.heap.size, 0, none⟩ = some (.int .u8 2) := by rw [p0.cell 0 (by decide), hv]; rfl
  have c78 : X.cell? ⟨w.heap.size, 78, none⟩ = some (.int .u8 1) := by rw [p0.cell 78 (by decide), ht]; rfl
  have HTT := hideIt ht
  have HP := hideIt p0
  clear hX hv ht p0
  go_enter Tryd.func11, Tryd.ntmps11
  go_wp2_with (rw [HX.out])
  clear c0 c78
  go_loopg [3, 4] 5 (fun gk v i wr => ∃ k : Nat, k + gk = 5 ∧ i = .int .u8 ((k : Int) + 1) ∧ OwnsM wr X.heap.size v (dropK n 1 k) ∧ Below X.heap.size X wr)
  case atStart => exact ⟨0, rfl, rfl, World.ownsRow_nil _ _ _ _, Below.refl _ _⟩
  case round =>
    obtain ⟨k, hgk, rfl, hown, hr⟩ := hrel
    by_cases hlt : k < 5
    · have hk8 : kindAt (73 + k) = .u8 := by
        have := kind_pock 1 (k + 1) (by decide) (by omega)
        rwa [show 66 + 6 * 1 + (k + 1) = 73 + k by omega] at this
      have HCK : Hid (∀ W, Below X.heap.size X W → W.cell? ⟨w.heap.size, 78, none⟩ = some (.int .u8 1) ∧ W.cell? ⟨w.heap.size, 72 + (k + 1), none⟩ = some (.int .u8 (n (73 + k)))) := fun W hW => by
        have pr := HP.out.below hW HP.out.lt
        refine ⟨by rw [pr.cell 78 (by decide), HTT.out]; rfl, ?_⟩
        have := pr.cell (73 + k) (by omega)
        rw [show 72 + (k + 1) = 73 + k by omega]
        rwa [hk8] at this
      obtain ⟨y0, y1⟩ := hn.u8 (73 + k) (by omega) hk8
      have HS := hideIt (show dropK n 1 (k + 1) = dropK n 1 k ++ (if n (73 + k) = 0 then [] else (listB (whB n (k + 1))).map (fun s => dmv s ((k : Int) + 1))) from rfl)
      have hdl := dropK_len n 1 k
      obtain ⟨pk, hpk⟩ : ∃ x, n (73 + k) = x := ⟨_, rfl⟩
      rw [hpk] at HCK HS y0 y1
      clear hpk hk8
      have dk : decide ((k : Int) + 1 ≤ 5) = true := decide_eq_true (by omega)
      by_cases h0 : pk = 0
      · have d0 : decide (0 < pk) = false := decide_eq_false (by omega)
        have HS := hideIt (HS.out.trans (by rw [if_pos h0, List.append_nil]))
        obtain ⟨c78, ck⟩ := HCK.out _ hr
        clear h0
        go_wp2
        refine wp_loop_rounds 1 ?_
        rw [rounds_succ]
        go_wp2
        go_roundg (5 - (k + 1))
        case measure => omega
        case rel => exact ⟨k + 1, by omega, by go_num, by rw [HS.out]; exact hown, hr⟩
      · have d0 : decide (0 < pk) = true := decide_eq_true (by omega)
        have HS := hideIt (HS.out.trans (by rw [if_neg h0, ← mvN_64]))
        have HB := hideIt (fun j (hj : j < 64) => wh_bit n k j hj)
        clear h0
        generalize dropK n 1 k = acc at HS hdl hown
        generalize whB n (k + 1) = wb at HS HB
        have HOWN := hideIt hown
        have HR := hideIt hr
        clear hown hr
        go_wp2
        go_loopg [3, 5] 64 (fun g2 v i wy => ∃ j : Nat, j + g2 = 64 ∧ i = .int .i64 j ∧ OwnsM wy X.heap.size v (acc ++ mvN wb ((k : Int) + 1) j) ∧ Below X.heap.size X wy)
        case atStart => exact ⟨0, rfl, rfl, by show OwnsM _ _ _ (acc ++ []); rw [List.append_nil]; exact HOWN.out, HR.out⟩
        case round =>
          clear HOWN HR
          obtain ⟨j, hgj, rfl, hown, hr4⟩ := hrel
          obtain ⟨c78, ck⟩ := HCK.out _ hr4
          by_cases hj : j < 64
          · have hbit := HB.out j hj
            have pr := HP.out.below hr4 HP.out.lt
            have cb := pr.board (1 + j) (by omega)
            obtain ⟨x0, x1⟩ := hn.u8 (1 + j) (by omega) (kind_board (by omega))
            have hz := knd_zero (n (1 + j))
            have HYS := hideIt (mvN_yes wb ((k : Int) + 1) j)
            have HNO := hideIt (mvN_no wb ((k : Int) + 1) j)
            have hlen : (acc ++ mvN wb ((k : Int) + 1) j).length ≤ 400 := by
              have := mvN_len wb ((k : Int) + 1) j
              rw [List.length_append]; omega
            have hsy := hr4.size
            generalize hml : acc ++ mvN wb ((k : Int) + 1) j = ml at hown hlen
            have HML := hideIt hml
            obtain ⟨x, hx⟩ : ∃ x, n (1 + j) = x := ⟨_, rfl⟩
            rw [hx] at cb x0 x1 hbit hz
            clear hx pr hml
            cases hi2 : isB x with
            | true =>
              rw [hi2] at hbit hz
              have HN := hideIt (HNO.out (by rw [hbit]; rfl))
              clear hbit hi2 HNO HYS
              go_wp2_with fail
              refine (k8_any x x0 x1 _).mono ?_
              rintro e w6 ⟨rfl, rfl⟩
              go_wp2
              go_roundg (64 - (j + 1))
              case measure => omega
              case rel => exact ⟨j + 1, by omega, by go_num, by rw [HN.out, HML.out]; exact hown, hr4⟩
            | false =>
              rw [hi2] at hbit hz
              by_cases hk1 : k = 0
              · have d1 : ((k : Int) + 1 == 1) = true := beq_iff_eq.2 (by omega)
                rw [decide_eq_true hk1] at hbit
                by_cases h8 : j < 8
                · have HN := hideIt (HNO.out (by rw [hbit, decide_eq_true h8]; rfl))
                  clear hbit hi2 HNO HYS hk1
                  go_wp2_with fail
                  refine (k8_any x x0 x1 _).mono ?_
                  rintro e w6 ⟨rfl, rfl⟩
                  go_wp2
                  go_roundg (64 - (j + 1))
                  case measure => omega
                  case rel => exact ⟨j + 1, by omega, by go_num, by rw [HN.out, HML.out]; exact hown, hr4⟩
                · by_cases h55 : 55 < j
                  · have HN := hideIt (HNO.out (by rw [hbit, decide_eq_true h55, Bool.or_true]; rfl))
                    have d8 : decide ((j : Int) < 8) = false := decide_eq_false (by omega)
                    have d55 : decide ((55 : Int) < j) = true := decide_eq_true (by omega)
                    clear hbit hi2 HNO HYS hk1 h8
                    go_wp2_with fail
                    refine (k8_any x x0 x1 _).mono ?_
                    rintro e w6 ⟨rfl, rfl⟩
                    go_wp2
                    go_roundg (64 - (j + 1))
                    case measure => omega
                    case rel => exact ⟨j + 1, by omega, by go_num, by rw [HN.out, HML.out]; exact hown, hr4⟩
                  · have HN := hideIt (HYS.out (by rw [hbit, decide_eq_false h8, decide_eq_false h55]; rfl))
                    have d8 : decide ((j : Int) < 8) = false := decide_eq_false (by omega)
                    have d55 : decide ((55 : Int) < j) = false := decide_eq_false (by omega)
                    clear hbit hi2 HNO HYS hk1 h8 h55
                    go_wp2_with fail
                    refine (k8_any x x0 x1 _).mono ?_
                    rintro e w6 ⟨rfl, rfl⟩
                    have W1 : IntKind.i8.wrap (j : Int) = (j : Int) := IntWalk.i8_in _ (by omega)
                    have bld : ∀ w, (Instr.build 45 #[(0, .int .i8 (j : Int)), (1, .int .i8 (j : Int)), (3, .int .u8 ((k : Int) + 1))]).run Tryd.prog w = .ok (.agg #[.int .i8 (j : Int), .int .i8 (j : Int), .int .u8 0, .int .u8 ((k : Int) + 1), .bool false]) w := fun _ => by kernel_rfl
                    go_wp2_with (at_builtin; refine wpList_append_own _ rfl _ _ 33 rfl X.heap.size 45 i0 (.agg #[.int .i8 0, .int .i8 0, .int .u8 0, .int .u8 0, .bool false]) 5 5 Tryd.underlying33 hi hz0 hz1 hz2 rfl (by decide) _ _ _ rfl (World.ownsRow.alloc hown _) ⟨wr.heap.size, 0, none⟩ 1 1 (dmv (j : Int) ((k : Int) + 1)).cells rfl rfl (cells5_new _ _ _ _ _ _ _) (by simp [dmv, Mv.cells, Value.oneCell']) (by unfold maxLen; omega) (by omega) (by simp; omega) ?_; intro v' w5 hown' hgrow3 _)
                    go_roundg (64 - (j + 1))
                    case measure => omega
                    case rel => exact ⟨j + 1, by omega, by go_num, by rw [HN.out, ← List.append_assoc, HML.out]; exact OwnsM.app hown', OwnsM.grown hown hr4 hsy _ hgrow3⟩
              · have d1 : ((k : Int) + 1 == 1) = false := beq_eq_false_iff_ne.2 (by omega)
                rw [decide_eq_false hk1] at hbit
                have HN := hideIt (HYS.out (by rw [hbit]; rfl))
                clear hbit hi2 HNO HYS hk1
                go_wp2_with fail
                refine (k8_any x x0 x1 _).mono ?_
                rintro e w6 ⟨rfl, rfl⟩
                have W1 : IntKind.i8.wrap (j : Int) = (j : Int) := IntWalk.i8_in _ (by omega)
                have bld : ∀ w, (Instr.build 45 #[(0, .int .i8 (j : Int)), (1, .int .i8 (j : Int)), (3, .int .u8 ((k : Int) + 1))]).run Tryd.prog w = .ok (.agg #[.int .i8 (j : Int), .int .i8 (j : Int), .int .u8 0, .int .u8 ((k : Int) + 1), .bool false]) w := fun _ => by kernel_rfl
                go_wp2_with (at_builtin; refine wpList_append_own _ rfl _ _ 33 rfl X.heap.size 45 i0 (.agg #[.int .i8 0, .int .i8 0, .int .u8 0, .int .u8 0, .bool false]) 5 5 Tryd.underlying33 hi hz0 hz1 hz2 rfl (by decide) _ _ _ rfl (World.ownsRow.alloc hown _) ⟨wr.heap.size, 0, none⟩ 1 1 (dmv (j : Int) ((k : Int) + 1)).cells rfl rfl (cells5_new _ _ _ _ _ _ _) (by simp [dmv, Mv.cells, Value.oneCell']) (by unfold maxLen; omega) (by omega) (by simp; omega) ?_; intro v' w5 hown' hgrow3 _)
                go_roundg (64 - (j + 1))
                case measure => omega
                case rel => exact ⟨j + 1, by omega, by go_num, by rw [HN.out, ← List.append_assoc, HML.out]; exact OwnsM.app hown', OwnsM.grown hown hr4 hsy _ hgrow3⟩
          · obtain rfl : j = 64 := by omega
            go_wp2
            go_roundg (5 - (k + 1))
            case measure => omega
            case rel => exact ⟨k + 1, by omega, by go_num, by rw [HS.out]; exact hown, hr4⟩
    · obtain rfl : k = 5 := by omega
      go_wp2
      go_ret
      exact ⟨_, rfl, hown.less hb.size, hb.trans (hr.mono hb.size)⟩


end Go.Proofs.YtkkabacdiefabaaDoor
