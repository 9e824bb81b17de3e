/- The walk of drop.List (written by gen_d5.py). -/
import Derived.Test.YtkkabacdiefabaaDoorD4
import Derived.Deep.LoopGhost
namespace Go.Proofs.YtkkabacdiefabaaDoor
open Go Go.RowKit
set_option linter.unusedVariables false

theorem xor_all (b : BitVec 64) : bits .xor .u64 (u (BitVec.allOnes 64)) (u b) = u (~~~b) := by
  rw [bits_xor_u, BitVec.allOnes_xor]
theorem and_mid (b : BitVec 64) : bits .and .u64 (u b) (u midB) = u (b &&& midB) := bits_and_u b midB
theorem wh_yes (n : Nat → Int) (k : Nat) (h : k = 0) : bits BinOp.and IntKind.u64 (bits BinOp.xor IntKind.u64 IntKind.u64.max (u (allN n))) 72057594037927680 = u (whB n (k + 1)) := by
  have e1 : IntKind.u64.max = u (BitVec.allOnes 64) := by decide
  have e2 : (72057594037927680 : Int) = u midB := by decide
  rw [e1, e2, xor_all, and_mid, show whB n (k + 1) = ~~~(allN n) &&& midB from if_pos (by omega)]
theorem wh_no (n : Nat → Int) (k : Nat) (h : k ≠ 0) : bits BinOp.xor IntKind.u64 IntKind.u64.max (u (allN n)) = u (whB n (k + 1)) := by
  have e1 : IntKind.u64.max = u (BitVec.allOnes 64) := by decide
  rw [e1, xor_all, show whB n (k + 1) = ~~~(allN n) from if_neg (by omega)]
theorem take_mv (l : List Int) (k : Int) (j : Nat) (hj : j < l.length) : (l.take (j + 1)).map (fun s => dmv s k) = (l.take j).map (fun s => dmv s k) ++ [dmv l[j] k] := by
  rw [List.take_succ_eq_append_getElem hj, List.map_append]; rfl


set_option maxRecDepth 100000 in
set_option maxHeartbeats 4000000 in
theorem droplist_0 (n : Nat → Int) (hn : PosOk n) (hv : n 0 = 2) (ht : n 78 = 0) (w : World) (hT : Tab w) :
    Calls Tryd.prog 10 #[.agg (posA n)] w fun e w' => ∃ v, e = .returned v ∧ OwnsM w' w.heap.size v (dropK n 0 5) ∧ Below w.heap.size w w' := by
  obtain ⟨i0, hi, hz0, hz1, hz2⟩ := info_parts infoM
  obtain ⟨X, hX⟩ : ∃ X, w.alloc (.cells (posA n) 31) = X := ⟨_, rfl⟩
  obtain ⟨p0, hb⟩ := box1 w n X hX
  have HX := hideIt hX
  have c0 : X.cell? ⟨w.heap.size, 0, none⟩ = some (.int .u8 2) := by rw [p0.cell 0 (by decide), hv]; rfl
  have c78 : X.cell? ⟨w.heap.size, 78, none⟩ = some (.int .u8 0) := by rw [p0.cell 78 (by decide), ht]; rfl
  have HT := hideIt (hT.below hb (Nat.le_refl _))
  have HV := hideIt hv
  have HTT := hideIt ht
  clear hX hT hv ht
  go_enter Tryd.func10, Tryd.ntmps10
  go_wp2_with (rw [HX.out])
  go_step3
  go_wp2_with fail
  refine (vpockets_any 2 (by decide) _).mono ?_
  rw [show pocB 2 = true from rfl]
  rintro e Y ⟨rfl, h1⟩
  have pY := p0.below h1 p0.lt
  have hbY := hb.trans (h1.mono hb.size)
  have HTY := hideIt (HT.out.below h1 (Nat.le_refl _))
  have HP := hideIt pY
  clear h1 c0 c78 p0 hb HT pY
  go_wp2
  go_step3
  go_wp2
  go_loopg [3, 18] 5 (fun gk v i wr => ∃ k : Nat, k + gk = 5 ∧ i = .int .i64 k ∧ OwnsM wr Y.heap.size v (dropK n 0 k) ∧ Below Y.heap.size Y wr)
  case atStart => exact ⟨0, rfl, rfl, World.ownsRow_nil _ _ _ _, Below.refl _ _⟩
  case round =>
    obtain ⟨k, hgk, rfl, hown, hr⟩ := hrel
    by_cases hlt : k < 5
    · have pr := HP.out.below hr HP.out.lt
      have c78 : wr.cell? ⟨w.heap.size, 78, none⟩ = some (.int .u8 0) := by rw [pr.cell 78 (by decide), HTT.out]; rfl
      have hk8 : kindAt (67 + k) = .u8 := by
        have := kind_pock 0 (k + 1) (by decide) (by omega)
        rwa [show 66 + 6 * 0 + (k + 1) = 67 + k by omega] at this
      have ck : wr.cell? ⟨w.heap.size, 66 + (k + 1), none⟩ = some (.int .u8 (n (67 + k))) := by
        have := pr.cell (67 + k) (by omega)
        rw [show 66 + (k + 1) = 67 + k by omega]
        rwa [hk8] at this
      have HS := hideIt (show dropK n 0 (k + 1) = dropK n 0 k ++ (if n (67 + k) = 0 then [] else (listB (whB n (k + 1))).map (fun s => dmv s ((k : Int) + 1))) from rfl)
      have hdl := dropK_len n 0 k
      obtain ⟨x, hx⟩ : ∃ x, n (67 + k) = x := ⟨_, rfl⟩
      rw [hx] at ck HS
      obtain ⟨i0', r0⟩ := pr.rules
      clear hx hk8 pr
      have W0 : IntKind.u8.wrap ((k : Int) + 1) = (k : Int) + 1 := IntWalk.u8_in _ (by omega)
      by_cases h0 : x = 0
      · have d0 : (x == 0) = true := beq_iff_eq.2 h0
        have HS := hideIt (HS.out.trans (by rw [if_pos h0, List.append_nil]))
        clear h0
        go_wp2
        go_roundg (5 - (k + 1))
        case measure => omega
        case rel => exact ⟨k + 1, by omega, by go_num, by rw [HS.out]; exact hown, hr⟩
      · have d0 : (x == 0) = false := beq_eq_false_iff_ne.2 h0
        have HS := hideIt (HS.out.trans (by rw [if_neg h0]))
        clear h0
        go_wp2_with fail
        refine (ball_any n hn _).mono ?_
        rintro e w2 ⟨rfl, h1⟩
        have hr2 := hr.trans (h1.mono hr.size)
        have hown := hown.kept h1 (Nat.le_refl _)
        clear h1 i0' r0 ck c78
        have hsz2 := hr2.size
        have HTW := hideIt (HTY.out.below hr2 (Nat.le_refl _))
        by_cases hk1 : k = 0
        · have d1 : ((k : Int) + 1 == 1) = true := beq_iff_eq.2 (by omega)
          have HW := hideIt (wh_yes n k hk1)
          clear hk1
          go_wp2_with fail
          refine (list_any (whB n (k + 1)) HW.out _ HTW.out).mono ?_
          rintro e w3 ⟨v3, rfl, ow, h1⟩
          have hr3 := hr2.trans (h1.mono hr2.size)
          have hown := hown.kept h1 (Nat.le_refl _)
          have hz3 := h1.size
          clear h1
          have hll : (listB (whB n (k + 1))).length ≤ 64 := listB_length _
          have hmem : ∀ x ∈ listB (whB n (k + 1)), 0 ≤ x ∧ x < 64 := fun x hx => by
            have hm := (mem_listB _ x).1 hx
            by_cases h : 0 ≤ x ∧ x < 64
            · exact h
            · rw [hasB_out _ h] at hm; cases hm
          generalize listB (whB n (k + 1)) = l at HS hll hmem ow
          generalize dropK n 0 k = acc at HS hdl hown
          have HM := hideIt hmem
          clear hmem hr hr2
          have hsz3 := hr3.size
          rcases ow.form with ⟨rfl, x3, c3, rfl⟩ | ⟨g3, c3, rfl, hg3, hs3, hne, _, _⟩
          · clear ow
            go_wp2
            refine wp_loop_rounds 1 ?_
            rw [rounds_succ]
            go_wp2
            go_roundg (5 - (k + 1))
            case measure => omega
            case rel => exact ⟨k + 1, by omega, by go_num, by rw [HS.out, List.map_nil, List.append_nil]; exact hown, hr3⟩
          · have HOW := hideIt ow
            have HR3 := hideIt hr3
            have HOWN := hideIt hown
            clear ow hne hr3 hown
            go_wp2
            go_loopg [3, 42] l.length (fun g2 v i wy => ∃ j : Nat, j + g2 = l.length ∧ i = .int .i64 j ∧ OwnsM wy Y.heap.size v (acc ++ (l.take j).map (fun s => dmv s ((k : Int) + 1))) ∧ OwnsI wy w2.heap.size (.slice (some ⟨g3, 0, none⟩) l.length c3) l ∧ Below Y.heap.size Y wy)
            case atStart => exact ⟨0, by omega, rfl, by rw [List.take_zero, List.map_nil, List.append_nil]; exact HOWN.out, HOW.out, HR3.out⟩
            case round =>
              clear HOWN HOW HR3
              obtain ⟨j, hgj, rfl, hown, how, hr4⟩ := hrel
              by_cases hj : j < l.length
              · have hx : wr.cell? ⟨g3, j, none⟩ = some (.int .i64 l[j]) := by
                  have e := World.ownsRow.cellAt how j (by omega)
                  rw [e]; simp [hj]
                have hlt3 := (World.ownsRow.lt how g3 rfl).2
                have hap := owns_apart how hown
                have HTk := hideIt (take_mv l ((k : Int) + 1) j hj)
                obtain ⟨x0, x1⟩ := HM.out l[j] (List.getElem_mem hj)
                have hlen : (acc ++ (l.take j).map (fun s => dmv s ((k : Int) + 1))).length ≤ 400 := by
                  rw [List.length_append, List.length_map, List.length_take]; omega
                have hsy := hr4.size
                generalize l[j] = y at hx x0 x1 HTk
                generalize hml : acc ++ (l.take j).map (fun s => dmv s ((k : Int) + 1)) = ml at hown hlen
                have HML := hideIt hml
                have HOW := hideIt how
                have HAP := hideIt hap
                clear hml how hap
                have W1 : IntKind.i8.wrap y = y := IntWalk.i8_in y (by omega)
                have bld : ∀ w, (Instr.build 45 #[(0, .int .i8 y), (1, .int .i8 y), (3, .int .u8 ((k : Int) + 1))]).run Tryd.prog w = .ok (.agg #[.int .i8 y, .int .i8 y, .int .u8 0, .int .u8 ((k : Int) + 1), .bool false]) w := fun _ => by kernel_rfl
                go_wp2_with (at_builtin; refine wpList_append_own _ rfl _ _ 33 rfl Y.heap.size 45 i0 (.agg #[.int .i8 0, .int .i8 0, .int .u8 0, .int .u8 0, .bool false]) 5 5 Tryd.underlying33 hi hz0 hz1 hz2 rfl (by decide) _ _ _ rfl (World.ownsRow.alloc hown _) ⟨wr.heap.size, 0, none⟩ 1 1 (dmv y ((k : Int) + 1)).cells rfl rfl (cells5_new _ _ _ _ _ _ _) (by simp [dmv, Mv.cells, Value.oneCell']) (by unfold maxLen; omega) (by omega) (by simp; omega) ?_; intro v' w5 hown' hgrow3 _)
                go_roundg (l.length - (j + 1))
                case measure => omega
                case rel => exact ⟨j + 1, by omega, by go_num, by rw [HTk.out, ← List.append_assoc, HML.out]; exact OwnsM.app hown', HOW.out.keptBlk ((hgrow3.block g3 (by simp; omega) HAP.out).trans (heap_alloc_old wr _ hlt3)), OwnsM.grown hown hr4 hsy _ hgrow3⟩
              · obtain rfl : j = l.length := by omega
                rw [List.take_length] at hown
                go_wp2
                go_roundg (5 - (k + 1))
                case measure => omega
                case rel => exact ⟨k + 1, by omega, by go_num, by rw [HS.out]; exact hown, hr4⟩
        · have d1 : ((k : Int) + 1 == 1) = false := beq_eq_false_iff_ne.2 (by omega)
          have HW := hideIt (wh_no n k hk1)
          clear hk1
          go_wp2_with fail
          refine (list_any (whB n (k + 1)) HW.out _ HTW.out).mono ?_
          rintro e w3 ⟨v3, rfl, ow, h1⟩
          have hr3 := hr2.trans (h1.mono hr2.size)
          have hown := hown.kept h1 (Nat.le_refl _)
          have hz3 := h1.size
          clear h1
          have hll : (listB (whB n (k + 1))).length ≤ 64 := listB_length _
          have hmem : ∀ x ∈ listB (whB n (k + 1)), 0 ≤ x ∧ x < 64 := fun x hx => by
            have hm := (mem_listB _ x).1 hx
            by_cases h : 0 ≤ x ∧ x < 64
            · exact h
            · rw [hasB_out _ h] at hm; cases hm
          generalize listB (whB n (k + 1)) = l at HS hll hmem ow
          generalize dropK n 0 k = acc at HS hdl hown
          have HM := hideIt hmem
          clear hmem hr hr2
          have hsz3 := hr3.size
          rcases ow.form with ⟨rfl, x3, c3, rfl⟩ | ⟨g3, c3, rfl, hg3, hs3, hne, _, _⟩
          · clear ow
            go_wp2
            refine wp_loop_rounds 1 ?_
            rw [rounds_succ]
            go_wp2
            go_roundg (5 - (k + 1))
            case measure => omega
            case rel => exact ⟨k + 1, by omega, by go_num, by rw [HS.out, List.map_nil, List.append_nil]; exact hown, hr3⟩
          · have HOW := hideIt ow
            have HR3 := hideIt hr3
            have HOWN := hideIt hown
            clear ow hne hr3 hown
            go_wp2
            go_loopg [3, 42] l.length (fun g2 v i wy => ∃ j : Nat, j + g2 = l.length ∧ i = .int .i64 j ∧ OwnsM wy Y.heap.size v (acc ++ (l.take j).map (fun s => dmv s ((k : Int) + 1))) ∧ OwnsI wy w2.heap.size (.slice (some ⟨g3, 0, none⟩) l.length c3) l ∧ Below Y.heap.size Y wy)
            case atStart => exact ⟨0, by omega, rfl, by rw [List.take_zero, List.map_nil, List.append_nil]; exact HOWN.out, HOW.out, HR3.out⟩
            case round =>
              clear HOWN HOW HR3
              obtain ⟨j, hgj, rfl, hown, how, hr4⟩ := hrel
              by_cases hj : j < l.length
              · have hx : wr.cell? ⟨g3, j, none⟩ = some (.int .i64 l[j]) := by
                  have e := World.ownsRow.cellAt how j (by omega)
                  rw [e]; simp [hj]
                have hlt3 := (World.ownsRow.lt how g3 rfl).2
                have hap := owns_apart how hown
                have HTk := hideIt (take_mv l ((k : Int) + 1) j hj)
                obtain ⟨x0, x1⟩ := HM.out l[j] (List.getElem_mem hj)
                have hlen : (acc ++ (l.take j).map (fun s => dmv s ((k : Int) + 1))).length ≤ 400 := by
                  rw [List.length_append, List.length_map, List.length_take]; omega
                have hsy := hr4.size
                generalize l[j] = y at hx x0 x1 HTk
                generalize hml : acc ++ (l.take j).map (fun s => dmv s ((k : Int) + 1)) = ml at hown hlen
                have HML := hideIt hml
                have HOW := hideIt how
                have HAP := hideIt hap
                clear hml how hap
                have W1 : IntKind.i8.wrap y = y := IntWalk.i8_in y (by omega)
                have bld : ∀ w, (Instr.build 45 #[(0, .int .i8 y), (1, .int .i8 y), (3, .int .u8 ((k : Int) + 1))]).run Tryd.prog w = .ok (.agg #[.int .i8 y, .int .i8 y, .int .u8 0, .int .u8 ((k : Int) + 1), .bool false]) w := fun _ => by kernel_rfl
                go_wp2_with (at_builtin; refine wpList_append_own _ rfl _ _ 33 rfl Y.heap.size 45 i0 (.agg #[.int .i8 0, .int .i8 0, .int .u8 0, .int .u8 0, .bool false]) 5 5 Tryd.underlying33 hi hz0 hz1 hz2 rfl (by decide) _ _ _ rfl (World.ownsRow.alloc hown _) ⟨wr.heap.size, 0, none⟩ 1 1 (dmv y ((k : Int) + 1)).cells rfl rfl (cells5_new _ _ _ _ _ _ _) (by simp [dmv, Mv.cells, Value.oneCell']) (by unfold maxLen; omega) (by omega) (by simp; omega) ?_; intro v' w5 hown' hgrow3 _)
                go_roundg (l.length - (j + 1))
                case measure => omega
                case rel => exact ⟨j + 1, by omega, by go_num, by rw [HTk.out, ← List.append_assoc, HML.out]; exact OwnsM.app hown', HOW.out.keptBlk ((hgrow3.block g3 (by simp; omega) HAP.out).trans (heap_alloc_old wr _ hlt3)), OwnsM.grown hown hr4 hsy _ hgrow3⟩
              · obtain rfl : j = l.length := by omega
                rw [List.take_length] at hown
                go_wp2
                go_roundg (5 - (k + 1))
                case measure => omega
                case rel => exact ⟨k + 1, by omega, by go_num, by rw [HS.out]; exact hown, hr4⟩
    · obtain rfl : k = 5 := by omega
      go_wp2
      (try rw [Exit.noGoto_ret])
      go_ret
      exact ⟨_, rfl, hown.less hbY.size, hbY.trans (hr.mono hbY.size)⟩


set_option maxRecDepth 100000 in
set_option maxHeartbeats 4000000 in
theorem droplist_1 (n : Nat → Int) (hn : PosOk n) (hv : n 0 = 2) (ht : n 78 = 1) (w : World) (hT : Tab w) :
    Calls Tryd.prog 10 #[.agg (posA n)] w fun e w' => ∃ v, e = .returned v ∧ OwnsM w' w.heap.size v (dropK n 1 5) ∧ Below w.heap.size w w' := by
  obtain ⟨i0, hi, hz0, hz1, hz2⟩ := info_parts infoM
  obtain ⟨X, hX⟩ : ∃ X, w.alloc (.cells (posA n) 31) = X := ⟨_, rfl⟩
  obtain ⟨p0, hb⟩ := box1 w n X hX
  have HX := hideIt hX
  have c0 : X.cell? ⟨w.heap.size, 0, none⟩ = some (.int .u8 2) := by rw [p0.cell 0 (by decide), hv]; rfl
  have c78 : X.cell? ⟨w.heap.size, 78, none⟩ = some (.int .u8 1) := by rw [p0.cell 78 (by decide), ht]; rfl
  have HT := hideIt (hT.below hb (Nat.le_refl _))
  have HV := hideIt hv
  have HTT := hideIt ht
  clear hX hT hv ht
  go_enter Tryd.func10, Tryd.ntmps10
  go_wp2_with (rw [HX.out])
  go_step3
  go_wp2_with fail
  refine (vpockets_any 2 (by decide) _).mono ?_
  rw [show pocB 2 = true from rfl]
  rintro e Y ⟨rfl, h1⟩
  have pY := p0.below h1 p0.lt
  have hbY := hb.trans (h1.mono hb.size)
  have HTY := hideIt (HT.out.below h1 (Nat.le_refl _))
  have HP := hideIt pY
  clear h1 c0 c78 p0 hb HT pY
  go_wp2
  go_step3
  go_wp2
  go_loopg [3, 18] 5 (fun gk v i wr => ∃ k : Nat, k + gk = 5 ∧ i = .int .i64 k ∧ OwnsM wr Y.heap.size v (dropK n 1 k) ∧ Below Y.heap.size Y wr)
  case atStart => exact ⟨0, rfl, rfl, World.ownsRow_nil _ _ _ _, Below.refl _ _⟩
  case round =>
    obtain ⟨k, hgk, rfl, hown, hr⟩ := hrel
    by_cases hlt : k < 5
    · have pr := HP.out.below hr HP.out.lt
      have c78 : wr.cell? ⟨w.heap.size, 78, none⟩ = some (.int .u8 1) := by rw [pr.cell 78 (by decide), HTT.out]; rfl
      have hk8 : kindAt (73 + k) = .u8 := by
        have := kind_pock 1 (k + 1) (by decide) (by omega)
        rwa [show 66 + 6 * 1 + (k + 1) = 73 + k by omega] at this
      have ck : wr.cell? ⟨w.heap.size, 72 + (k + 1), none⟩ = some (.int .u8 (n (73 + k))) := by
        have := pr.cell (73 + k) (by omega)
        rw [show 72 + (k + 1) = 73 + k by omega]
        rwa [hk8] at this
      have HS := hideIt (show dropK n 1 (k + 1) = dropK n 1 k ++ (if n (73 + k) = 0 then [] else (listB (whB n (k + 1))).map (fun s => dmv s ((k : Int) + 1))) from rfl)
      have hdl := dropK_len n 1 k
      obtain ⟨x, hx⟩ : ∃ x, n (73 + k) = x := ⟨_, rfl⟩
      rw [hx] at ck HS
      obtain ⟨i0', r0⟩ := pr.rules
      clear hx hk8 pr
      have W0 : IntKind.u8.wrap ((k : Int) + 1) = (k : Int) + 1 := IntWalk.u8_in _ (by omega)
      by_cases h0 : x = 0
      · have d0 : (x == 0) = true := beq_iff_eq.2 h0
        have HS := hideIt (HS.out.trans (by rw [if_pos h0, List.append_nil]))
        clear h0
        go_wp2
        go_roundg (5 - (k + 1))
        case measure => omega
        case rel => exact ⟨k + 1, by omega, by go_num, by rw [HS.out]; exact hown, hr⟩
      · have d0 : (x == 0) = false := beq_eq_false_iff_ne.2 h0
        have HS := hideIt (HS.out.trans (by rw [if_neg h0]))
        clear h0
        go_wp2_with fail
        refine (ball_any n hn _).mono ?_
        rintro e w2 ⟨rfl, h1⟩
        have hr2 := hr.trans (h1.mono hr.size)
        have hown := hown.kept h1 (Nat.le_refl _)
        clear h1 i0' r0 ck c78
        have hsz2 := hr2.size
        have HTW := hideIt (HTY.out.below hr2 (Nat.le_refl _))
        by_cases hk1 : k = 0
        · have d1 : ((k : Int) + 1 == 1) = true := beq_iff_eq.2 (by omega)
          have HW := hideIt (wh_yes n k hk1)
          clear hk1
          go_wp2_with fail
          refine (list_any (whB n (k + 1)) HW.out _ HTW.out).mono ?_
          rintro e w3 ⟨v3, rfl, ow, h1⟩
          have hr3 := hr2.trans (h1.mono hr2.size)
          have hown := hown.kept h1 (Nat.le_refl _)
          have hz3 := h1.size
          clear h1
          have hll : (listB (whB n (k + 1))).length ≤ 64 := listB_length _
          have hmem : ∀ x ∈ listB (whB n (k + 1)), 0 ≤ x ∧ x < 64 := fun x hx => by
            have hm := (mem_listB _ x).1 hx
            by_cases h : 0 ≤ x ∧ x < 64
            · exact h
            · rw [hasB_out _ h] at hm; cases hm
          generalize listB (whB n (k + 1)) = l at HS hll hmem ow
          generalize dropK n 1 k = acc at HS hdl hown
          have HM := hideIt hmem
          clear hmem hr hr2
          have hsz3 := hr3.size
          rcases ow.form with ⟨rfl, x3, c3, rfl⟩ | ⟨g3, c3, rfl, hg3, hs3, hne, _, _⟩
          · clear ow
            go_wp2
            refine wp_loop_rounds 1 ?_
            rw [rounds_succ]
            go_wp2
            go_roundg (5 - (k + 1))
            case measure => omega
            case rel => exact ⟨k + 1, by omega, by go_num, by rw [HS.out, List.map_nil, List.append_nil]; exact hown, hr3⟩
          · have HOW := hideIt ow
            have HR3 := hideIt hr3
            have HOWN := hideIt hown
            clear ow hne hr3 hown
            go_wp2
            go_loopg [3, 42] l.length (fun g2 v i wy => ∃ j : Nat, j + g2 = l.length ∧ i = .int .i64 j ∧ OwnsM wy Y.heap.size v (acc ++ (l.take j).map (fun s => dmv s ((k : Int) + 1))) ∧ OwnsI wy w2.heap.size (.slice (some ⟨g3, 0, none⟩) l.length c3) l ∧ Below Y.heap.size Y wy)
            case atStart => exact ⟨0, by omega, rfl, by rw [List.take_zero, List.map_nil, List.append_nil]; exact HOWN.out, HOW.out, HR3.out⟩
            case round =>
              clear HOWN HOW HR3
              obtain ⟨j, hgj, rfl, hown, how, hr4⟩ := hrel
              by_cases hj : j < l.length
              · have hx : wr.cell? ⟨g3, j, none⟩ = some (.int .i64 l[j]) := by
                  have e := World.ownsRow.cellAt how j (by omega)
                  rw [e]; simp [hj]
                have hlt3 := (World.ownsRow.lt how g3 rfl).2
                have hap := owns_apart how hown
                have HTk := hideIt (take_mv l ((k : Int) + 1) j hj)
                obtain ⟨x0, x1⟩ := HM.out l[j] (List.getElem_mem hj)
                have hlen : (acc ++ (l.take j).map (fun s => dmv s ((k : Int) + 1))).length ≤ 400 := by
                  rw [List.length_append, List.length_map, List.length_take]; omega
                have hsy := hr4.size
                generalize l[j] = y at hx x0 x1 HTk
                generalize hml : acc ++ (l.take j).map (fun s => dmv s ((k : Int) + 1)) = ml at hown hlen
                have HML := hideIt hml
                have HOW := hideIt how
                have HAP := hideIt hap
                clear hml how hap
                have W1 : IntKind.i8.wrap y = y := IntWalk.i8_in y (by omega)
                have bld : ∀ w, (Instr.build 45 #[(0, .int .i8 y), (1, .int .i8 y), (3, .int .u8 ((k : Int) + 1))]).run Tryd.prog w = .ok (.agg #[.int .i8 y, .int .i8 y, .int .u8 0, .int .u8 ((k : Int) + 1), .bool false]) w := fun _ => by kernel_rfl
                go_wp2_with (at_builtin; refine wpList_append_own _ rfl _ _ 33 rfl Y.heap.size 45 i0 (.agg #[.int .i8 0, .int .i8 0, .int .u8 0, .int .u8 0, .bool false]) 5 5 Tryd.underlying33 hi hz0 hz1 hz2 rfl (by decide) _ _ _ rfl (World.ownsRow.alloc hown _) ⟨wr.heap.size, 0, none⟩ 1 1 (dmv y ((k : Int) + 1)).cells rfl rfl (cells5_new _ _ _ _ _ _ _) (by simp [dmv, Mv.cells, Value.oneCell']) (by unfold maxLen; omega) (by omega) (by simp; omega) ?_; intro v' w5 hown' hgrow3 _)
                go_roundg (l.length - (j + 1))
                case measure => omega
                case rel => exact ⟨j + 1, by omega, by go_num, by rw [HTk.out, ← List.append_assoc, HML.out]; exact OwnsM.app hown', HOW.out.keptBlk ((hgrow3.block g3 (by simp; omega) HAP.out).trans (heap_alloc_old wr _ hlt3)), OwnsM.grown hown hr4 hsy _ hgrow3⟩
              · obtain rfl : j = l.length := by omega
                rw [List.take_length] at hown
                go_wp2
                go_roundg (5 - (k + 1))
                case measure => omega
                case rel => exact ⟨k + 1, by omega, by go_num, by rw [HS.out]; exact hown, hr4⟩
        · have d1 : ((k : Int) + 1 == 1) = false := beq_eq_false_iff_ne.2 (by omega)
          have HW := hideIt (wh_no n k hk1)
          clear hk1
          go_wp2_with fail
          refine (list_any (whB n (k + 1)) HW.out _ HTW.out).mono ?_
          rintro e w3 ⟨v3, rfl, ow, h1⟩
          have hr3 := hr2.trans (h1.mono hr2.size)
          have hown := hown.kept h1 (Nat.le_refl _)
          have hz3 := h1.size
          clear h1
          have hll : (listB (whB n (k + 1))).length ≤ 64 := listB_length _
          have hmem : ∀ x ∈ listB (whB n (k + 1)), 0 ≤ x ∧ x < 64 := fun x hx => by
            have hm := (mem_listB _ x).1 hx
            by_cases h : 0 ≤ x ∧ x < 64
            · exact h
            · rw [hasB_out _ h] at hm; cases hm
          generalize listB (whB n (k + 1)) = l at HS hll hmem ow
          generalize dropK n 1 k = acc at HS hdl hown
          have HM := hideIt hmem
          clear hmem hr hr2
          have hsz3 := hr3.size
          rcases ow.form with ⟨rfl, x3, c3, rfl⟩ | ⟨g3, c3, rfl, hg3, hs3, hne, _, _⟩
          · clear ow
            go_wp2
            refine wp_loop_rounds 1 ?_
            rw [rounds_succ]
            go_wp2
            go_roundg (5 - (k + 1))
            case measure => omega
            case rel => exact ⟨k + 1, by omega, by go_num, by rw [HS.out, List.map_nil, List.append_nil]; exact hown, hr3⟩
          · have HOW := hideIt ow
            have HR3 := hideIt hr3
            have HOWN := hideIt hown
            clear ow hne hr3 hown
            go_wp2
            go_loopg [3, 42] l.length (fun g2 v i wy => ∃ j : Nat, j + g2 = l.length ∧ i = .int .i64 j ∧ OwnsM wy Y.heap.size v (acc ++ (l.take j).map (fun s => dmv s ((k : Int) + 1))) ∧ OwnsI wy w2.heap.size (.slice (some ⟨g3, 0, none⟩) l.length c3) l ∧ Below Y.heap.size Y wy)
            case atStart => exact ⟨0, by omega, rfl, by rw [List.take_zero, List.map_nil, List.append_nil]; exact HOWN.out, HOW.out, HR3.out⟩
            case round =>
              clear HOWN HOW HR3
              obtain ⟨j, hgj, rfl, hown, how, hr4⟩ := hrel
              by_cases hj : j < l.length
              · have hx : wr.cell? ⟨g3, j, none⟩ = some (.int .i64 l[j]) := by
                  have e := World.ownsRow.cellAt how j (by omega)
                  rw [e]; simp [hj]
                have hlt3 := (World.ownsRow.lt how g3 rfl).2
                have hap := owns_apart how hown
                have HTk := hideIt (take_mv l ((k : Int) + 1) j hj)
                obtain ⟨x0, x1⟩ := HM.out l[j] (List.getElem_mem hj)
                have hlen : (acc ++ (l.take j).map (fun s => dmv s ((k : Int) + 1))).length ≤ 400 := by
                  rw [List.length_append, List.length_map, List.length_take]; omega
                have hsy := hr4.size
                generalize l[j] = y at hx x0 x1 HTk
                generalize hml : acc ++ (l.take j).map (fun s => dmv s ((k : Int) + 1)) = ml at hown hlen
                have HML := hideIt hml
                have HOW := hideIt how
                have HAP := hideIt hap
                clear hml how hap
                have W1 : IntKind.i8.wrap y = y := IntWalk.i8_in y (by omega)
                have bld : ∀ w, (Instr.build 45 #[(0, .int .i8 y), (1, .int .i8 y), (3, .int .u8 ((k : Int) + 1))]).run Tryd.prog w = .ok (.agg #[.int .i8 y, .int .i8 y, .int .u8 0, .int .u8 ((k : Int) + 1), .bool false]) w := fun _ => by kernel_rfl
                go_wp2_with (at_builtin; refine wpList_append_own _ rfl _ _ 33 rfl Y.heap.size 45 i0 (.agg #[.int .i8 0, .int .i8 0, .int .u8 0, .int .u8 0, .bool false]) 5 5 Tryd.underlying33 hi hz0 hz1 hz2 rfl (by decide) _ _ _ rfl (World.ownsRow.alloc hown _) ⟨wr.heap.size, 0, none⟩ 1 1 (dmv y ((k : Int) + 1)).cells rfl rfl (cells5_new _ _ _ _ _ _ _) (by simp [dmv, Mv.cells, Value.oneCell']) (by unfold maxLen; omega) (by omega) (by simp; omega) ?_; intro v' w5 hown' hgrow3 _)
                go_roundg (l.length - (j + 1))
                case measure => omega
                case rel => exact ⟨j + 1, by omega, by go_num, by rw [HTk.out, ← List.append_assoc, HML.out]; exact OwnsM.app hown', HOW.out.keptBlk ((hgrow3.block g3 (by simp; omega) HAP.out).trans (heap_alloc_old wr _ hlt3)), OwnsM.grown hown hr4 hsy _ hgrow3⟩
              · obtain rfl : j = l.length := by omega
                rw [List.take_length] at hown
                go_wp2
                go_roundg (5 - (k + 1))
                case measure => omega
                case rel => exact ⟨k + 1, by omega, by go_num, by rw [HS.out]; exact hown, hr4⟩
    · obtain rfl : k = 5 := by omega
      go_wp2
      (try rw [Exit.noGoto_ret])
      go_ret
      exact ⟨_, rfl, hown.less hbY.size, hbY.trans (hr.mono hbY.size)⟩


end Go.Proofs.YtkkabacdiefabaaDoor
