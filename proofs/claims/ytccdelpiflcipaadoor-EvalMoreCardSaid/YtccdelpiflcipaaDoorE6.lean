/- The walk of eval.Side: of white. -/
import Derived.Test.YtccdelpiflcipaaDoorE5a
namespace Go.Proofs.YtccdelpiflcipaaDoor
open Go Go.RowKit
set_option linter.unusedVariables false

set_option maxRecDepth 100000 in
set_option maxHeartbeats 2000000 in
theorem side_0 (n : Nat → Int) (hn : PosOk n) (v : Nat) (hv : n 0 = v) (hv9 : v < 9) (w : World) (hT : Tab w) :
    Calls Tryd.prog 13 #[.agg (posA n), .int .u8 0] w fun e w' => e = .returned (.int .i64 (worthI n v 0)) ∧ Below w.heap.size w w' := by
  have HK := hideIt (show knownB v 0 = true by unfold knownB; rw [decide_eq_true hv9]; rfl)
  obtain ⟨X, hX⟩ : ∃ X, w.alloc (.cells (posA n) 31) = X := ⟨_, rfl⟩
  obtain ⟨p0, hb⟩ := box1 w n X hX
  have HX := hideIt hX
  have hTX := hT.below hb (Nat.le_refl _)
  have c0 : X.cell? ⟨w.heap.size, 0, none⟩ = some (.int .u8 v) := by rw [p0.cell 0 (by decide), hv]; rfl
  have HT := hideIt hTX
  have HP := hideIt p0
  clear hX hT hTX
  go_enter Tryd.func13, Tryd.ntmps13
  go_wp2_with (rw [HX.out])
  refine (known_any v 0 (by omega) (by decide) _).mono ?_
  rw [HK.out]
  rintro e w1 ⟨rfl, h1⟩
  have hx := h1
  clear h1 c0
  go_wp2
  go_loopg [5, 6] 6 (fun gk acc kd wr => ∃ k : Nat, k + gk = 6 ∧ kd = .int .u8 ((k : Int) + 1) ∧ acc = .int .i64 (kindsK n 0 k) ∧ Below X.heap.size X wr)
  case atStart => exact ⟨0, rfl, rfl, rfl, hx⟩
  case round =>
    clear hx
    obtain ⟨k, hgk, rfl, rfl, hb1⟩ := hrel
    by_cases hlt : k < 6
    · have hp := HP.out.below hb1 HP.out.lt
      obtain ⟨i0, r0⟩ := hp.rules
      obtain ⟨a0, a1⟩ := kindsK_bd n 0 k (by omega)
      have HE := hideIt (show kindsK n 0 (k + 1) = kindsK n 0 k + sumK (valI 0 ((k : Int) + 1)) (listB (ofN n 0 ((k : Int) + 1))) by rw [sum_listB]; rfl)
      generalize kindsK n 0 k = acc at HE a0 a1 ⊢
      go_wp2_with fail
      refine (of_any n hn 0 ((k : Int) + 1) _).mono ?_
      rintro e w2 ⟨rfl, h1⟩
      have hb2 := hb1.trans (h1.mono hb1.size)
      clear h1 i0 r0 hp
      go_wp2_with fail
      refine (list_any (ofN n 0 ((k : Int) + 1)) rfl _ (HT.out.below hb2 (Nat.le_refl _))).mono ?_
      rintro e w3 ⟨v3, rfl, ow, h1⟩
      have hb3 := hb2.trans (h1.mono hb2.size)
      clear h1 hb2
      have hll : (listB (ofN n 0 ((k : Int) + 1))).length ≤ 64 := listB_length _
      have hmem : ∀ x ∈ listB (ofN n 0 ((k : Int) + 1)), 0 ≤ x ∧ x < 64 := fun x hx => by
        have hm := (mem_listB _ x).1 hx
        by_cases h : 0 ≤ x ∧ x < 64
        · exact h
        · rw [hasB_out _ h] at hm; cases hm
      generalize listB (ofN n 0 ((k : Int) + 1)) = l at HE hll hmem ow
      have HM := hideIt hmem
      clear hmem
      rcases ow.form with ⟨rfl, x3, c3, rfl⟩ | ⟨g3, c3, rfl, hg3, hs3, hne, hcell, _⟩
      · clear ow
        go_wp2
        refine wp_loop_rounds 1 ?_
        rw [rounds_succ]
        go_wp2
        go_roundg (6 - (k + 1))
        case measure => omega
        case rel => exact ⟨k + 1, by omega, by go_num, by rw [HE.out]; show _ = Value.int IntKind.i64 (acc + 0); rw [Int.add_zero], hb3⟩
      · clear ow
        have HC := hideIt hcell
        clear hcell
        go_wp2
        go_loopg [5, 26] l.length (fun g2 ac i wy => ∃ j : Nat, j + g2 = l.length ∧ i = .int .i64 j ∧ ac = .int .i64 (acc + sumK (valI 0 ((k : Int) + 1)) (l.take j)) ∧ Below w3.heap.size w3 wy)
        case atStart => exact ⟨0, by omega, rfl, by show _ = Value.int IntKind.i64 (acc + 0); rw [Int.add_zero], Below.refl _ _⟩
        case round =>
          obtain ⟨j, hgj, rfl, rfl, hb4⟩ := hrel
          by_cases hj : j < l.length
          · have hx := (hb4.cell (p := ⟨g3, j, none⟩) hs3).trans (HC.out j hj)
            obtain ⟨x0, x1⟩ := HM.out l[j] (List.getElem_mem hj)
            have HS := hideIt (sum_take (valI 0 ((k : Int) + 1)) l j hj)
            obtain ⟨s0, s1⟩ := sum_bd 0 ((k : Int) + 1) (l.take j) (fun y hy => HM.out y (List.mem_of_mem_take hy))
            rw [List.length_take] at s0 s1
            generalize sumK (valI 0 ((k : Int) + 1)) (l.take j) = sm at HS s0 s1 ⊢
            generalize l[j] = x at hx x0 x1 HS
            obtain ⟨q0, q1⟩ : 0 ≤ sqI x ∧ sqI x ≤ 3 := by
              have h := sq_bd ⟨x.toNat, by omega⟩
              rwa [show (((⟨x.toNat, by omega⟩ : Fin 64).val : Nat) : Int) = x by show ((x.toNat : Nat) : Int) = x; omega] at h
            obtain ⟨g0, g1⟩ := wort_bd ((k + 1 : Nat) : Int)
            have HV := hideIt (show valI 0 ((k : Int) + 1) x = wortI ((k + 1 : Nat) : Int) - 4 * sqI x + (if k = 0 then 6 * (x / 8) else 0) by
              unfold valI
              rw [if_pos rfl, show ((k + 1 : Nat) : Int) = (k : Int) + 1 by omega]
              by_cases h : k = 0
              · rw [if_pos (by omega), if_pos h]
              · rw [if_neg (by omega), if_neg h])
            obtain ⟨wo, hwo⟩ : ∃ wo, wortI ((k + 1 : Nat) : Int) = wo := ⟨_, rfl⟩
            obtain ⟨sq, hsq⟩ : ∃ sq, sqI x = sq := ⟨_, rfl⟩
            rw [hwo, hsq] at HV
            rw [hwo] at g0 g1
            rw [hsq] at q0 q1
            have HW := hideIt hwo
            have HSQ := hideIt hsq
            clear hwo hsq
            go_wp2_with fail
            rw [show (k : Int) + 1 = ((k + 1 : Nat) : Int) by omega]
            refine (piece_any (k + 1) (by omega) _).mono ?_
            rw [HW.out]
            rintro e w5 ⟨rfl, h1⟩
            have hb5 := hb4.trans (h1.mono hb4.size)
            clear h1
            go_wp2_with fail
            refine (square_any x _).mono ?_
            rw [HSQ.out]
            rintro e w6 ⟨rfl, rfl⟩
            by_cases hk0 : k = 0
            · have HV := hideIt (HV.out.trans (by rw [if_pos hk0]))
              have e1 : (((k + 1 : Nat) : Int) == 1) = true := beq_iff_eq.2 (by omega)
              have e2 : ((k : Int) + 1 == 1) = true := beq_iff_eq.2 (by omega)
              clear hk0
              go_wp2
              all_goals
                go_roundg (l.length - (j + 1))
                case measure => omega
                case rel => exact ⟨j + 1, by omega, by go_num, by rw [HS.out, HV.out]; congr 1; omega, hb5⟩
            · have HV := hideIt (HV.out.trans (by rw [if_neg hk0]))
              have e1 : (((k + 1 : Nat) : Int) == 1) = false := beq_eq_false_iff_ne.2 (by omega)
              have e2 : ((k : Int) + 1 == 1) = false := beq_eq_false_iff_ne.2 (by omega)
              clear hk0
              go_wp2
              go_roundg (l.length - (j + 1))
              case measure => omega
              case rel => exact ⟨j + 1, by omega, by go_num, by rw [HS.out, HV.out]; congr 1; omega, hb5⟩
          · obtain rfl : j = l.length := by omega
            rw [List.take_length]
            go_wp2
            go_roundg (6 - (k + 1))
            case measure => omega
            case rel => exact ⟨k + 1, by omega, by go_num, by rw [HE.out], hb3.trans (hb4.mono hb3.size)⟩
    · obtain rfl : k = 6 := by omega
      have hp := HP.out.below hb1 HP.out.lt
      obtain ⟨i0, r0⟩ := hp.rules
      have c0 := hp.cell 0 (by decide)
      rw [hv] at c0
      replace c0 : wr.cell? ⟨w.heap.size, 0, none⟩ = some (.int .u8 (v : Int)) := c0
      go_wp2_with fail
      refine (extras_any _).mono ?_
      rintro e w4 ⟨rfl, h4⟩
      have he4 : ExAt w4 wr.heap.size := by rw [← h4]; exact heap_alloc_last _ _
      have hb4 : Below X.heap.size X w4 := by rw [← h4]; exact hb1.alloc hb1.size _
      have HE4 := hideIt he4
      have hs4 : w4.heap.size = wr.heap.size + 1 := by rw [← h4]; simp
      clear h4 he4 hp i0 r0 c0 HX p0
      go_wp2
      generalize wr.heap.size = g4 at HE4 hs4 ⊢
      go_loopg [5, 59] 5 (fun g2 ac i wy => ∃ j : Nat, j + g2 = 5 ∧ i = .int .i64 j ∧ ac = .int .i64 (kindsK n 0 6 + exS n 0 v j) ∧ Below w4.heap.size w4 wy)
      case atStart => exact ⟨0, by omega, rfl, by show _ = Value.int IntKind.i64 (kindsK n 0 6 + 0); rw [Int.add_zero], Below.refl _ _⟩
      case round =>
        obtain ⟨j, hgj, rfl, rfl, hb5⟩ := hrel
        by_cases hj : j < 5
        · have he := HE4.out.below hb5 HE4.out.lt
          obtain ⟨Y, hY⟩ : ∃ Y, (wr.alloc (.cells #[.int .u8 0, .nilFunc] 57)).setRow wr.heap.size #[.int .u8 (exV j), exF j] = Y := ⟨_, rfl⟩
          have hby : Below w4.heap.size w4 Y := by rw [← hY]; exact below_setRow (hb5.alloc hb5.size _) hb5.size _
          have hyc : Y.heap[wr.heap.size]? = some (.cells #[.int .u8 (exV j), exF j] 57 (0, 0)) := by rw [← hY]; exact setRow_heap _ _ _ _ _ _ (heap_alloc_last _ _)
          have y0 : Y.cell? ⟨wr.heap.size, 0, none⟩ = some (.int .u8 (exV j)) := by unfold World.cell?; simp only [hyc]; rfl
          have y1 : Y.cell? ⟨wr.heap.size, 1, none⟩ = some (exF j) := by unfold World.cell?; simp only [hyc]; rfl
          have hp := (HP.out.below hb4 HP.out.lt).below hby (Nat.lt_of_lt_of_le HP.out.lt hb4.size)
          have hTY := (HT.out.below hb4 (Nat.le_refl _)).below hby (Nat.le_refl _)
          obtain ⟨i0, r0⟩ := hp.rules
          have c0 := hp.cell 0 (by decide)
          rw [hv, show kindAt 0 = IntKind.u8 from rfl] at c0
          have pr := he.range j hj
          have HY := hideIt hY
          have HTY := hideIt hTY
          clear hY hyc hp hTY he
          by_cases hve : exV j = v
          · have E1 : (((exV j : Nat) : Int) == (v : Int)) = true := beq_iff_eq.2 (by omega)
            have hS := show exS n 0 v (j + 1) = exS n 0 v j + exI n 0 j by show _ + (if _ then _ else _) = _; rw [if_pos hve]
            obtain ⟨b0, b1⟩ := exI_bd n hn 0 (by decide) j hj
            obtain ⟨s0, s1⟩ := exS_bd n hn 0 v (by decide) j (by omega)
            obtain ⟨q0, q1⟩ := kindsK_bd n 0 6 (by decide)
            obtain ⟨x, hx⟩ : ∃ x, exI n 0 j = x := ⟨_, rfl⟩
            rw [hx] at b0 b1 hS
            have HS := hideIt hS
            clear hve hS
            generalize kindsK n 0 6 = q at *
            generalize exS n 0 v j = t at *
            have hc : j = 0 ∨ j = 1 ∨ j = 2 ∨ j = 3 ∨ j = 4 := by omega
            rcases hc with hk | hk | hk | hk | hk
            · replace y1 := y1.trans (congrArg some (show exF j = .func (.func 44) #[] #[] by rw [hk]; rfl))
              have HV := hideIt (show heldI n 0 6 = x by rw [← hx, hk]; rfl)
              clear hk hx
              go_wp2_with (first | rw [HY.out] | (refine wpList_load_mid (by rfl) 57 _ rfl g4 (j * 2) rfl [.int .u8 (exV j), exF j] _ pr Tryd.underlying57 rfl size_ex ?_) | (refine wpList_store_row rfl 57 _ _ rfl wr.heap.size #[.int .u8 (exV j), exF j] rfl rfl 57 _ (heap_alloc_last _ _) size_ex rfl (ex_one j hj) ?_))
              refine (extra1_0 n hn _).mono ?_
              rw [HV.out]
              rintro e w5 ⟨rfl, h1⟩
              have hb6 := hby.trans (h1.mono hby.size)
              clear h1
              go_wp2
              go_roundg (5 - (j + 1))
              case measure => omega
              case rel => exact ⟨j + 1, by omega, by go_num, by rw [HS.out]; congr 1; omega, hb6⟩
            · replace y1 := y1.trans (congrArg some (show exF j = .func (.func 45) #[] #[] by rw [hk]; rfl))
              have HV := hideIt (show kingI n 0 (fun s => 60 * (s / 8)) = x by rw [← hx, hk]; rfl)
              clear hk hx
              go_wp2_with (first | rw [HY.out] | (refine wpList_load_mid (by rfl) 57 _ rfl g4 (j * 2) rfl [.int .u8 (exV j), exF j] _ pr Tryd.underlying57 rfl size_ex ?_) | (refine wpList_store_row rfl 57 _ _ rfl wr.heap.size #[.int .u8 (exV j), exF j] rfl rfl 57 _ (heap_alloc_last _ _) size_ex rfl (ex_one j hj) ?_))
              refine (extra2_any n hn 0 _ HTY.out).mono ?_
              rw [HV.out]
              rintro e w5 ⟨rfl, h1⟩
              have hb6 := hby.trans (h1.mono hby.size)
              clear h1
              go_wp2
              go_roundg (5 - (j + 1))
              case measure => omega
              case rel => exact ⟨j + 1, by omega, by go_num, by rw [HS.out]; congr 1; omega, hb6⟩
            · replace y1 := y1.trans (congrArg some (show exF j = .func (.func 48) #[] #[] by rw [hk]; rfl))
              have HV := hideIt (show kingI n 0 (fun s => -30 * sqI s) = x by rw [← hx, hk]; rfl)
              clear hk hx
              go_wp2_with (first | rw [HY.out] | (refine wpList_load_mid (by rfl) 57 _ rfl g4 (j * 2) rfl [.int .u8 (exV j), exF j] _ pr Tryd.underlying57 rfl size_ex ?_) | (refine wpList_store_row rfl 57 _ _ rfl wr.heap.size #[.int .u8 (exV j), exF j] rfl rfl 57 _ (heap_alloc_last _ _) size_ex rfl (ex_one j hj) ?_))
              refine (extra3_any n hn 0 _ HTY.out).mono ?_
              rw [HV.out]
              rintro e w5 ⟨rfl, h1⟩
              have hb6 := hby.trans (h1.mono hby.size)
              clear h1
              go_wp2
              go_roundg (5 - (j + 1))
              case measure => omega
              case rel => exact ⟨j + 1, by omega, by go_num, by rw [HS.out]; congr 1; omega, hb6⟩
            · replace y1 := y1.trans (congrArg some (show exF j = .func (.func 50) #[] #[] by rw [hk]; rfl))
              have HV := hideIt (show 150 * n (84 + 0) = x by rw [← hx, hk]; rfl)
              clear hk hx
              go_wp2_with (first | rw [HY.out] | (refine wpList_load_mid (by rfl) 57 _ rfl g4 (j * 2) rfl [.int .u8 (exV j), exF j] _ pr Tryd.underlying57 rfl size_ex ?_) | (refine wpList_store_row rfl 57 _ _ rfl wr.heap.size #[.int .u8 (exV j), exF j] rfl rfl 57 _ (heap_alloc_last _ _) size_ex rfl (ex_one j hj) ?_))
              refine (extra4_any n hn 0 (by decide) _).mono ?_
              rw [HV.out]
              rintro e w5 ⟨rfl, h1⟩
              have hb6 := hby.trans (h1.mono hby.size)
              clear h1
              go_wp2
              go_roundg (5 - (j + 1))
              case measure => omega
              case rel => exact ⟨j + 1, by omega, by go_num, by rw [HS.out]; congr 1; omega, hb6⟩
            · replace y1 := y1.trans (congrArg some (show exF j = .func (.func 51) #[] #[] by rw [hk]; rfl))
              have HV := hideIt (show 200 * (cntB (ofN n ((0 : Nat) : Int) 6) : Int) = x by rw [← hx, hk]; rfl)
              clear hk hx
              go_wp2_with (first | rw [HY.out] | (refine wpList_load_mid (by rfl) 57 _ rfl g4 (j * 2) rfl [.int .u8 (exV j), exF j] _ pr Tryd.underlying57 rfl size_ex ?_) | (refine wpList_store_row rfl 57 _ _ rfl wr.heap.size #[.int .u8 (exV j), exF j] rfl rfl 57 _ (heap_alloc_last _ _) size_ex rfl (ex_one j hj) ?_))
              refine (extra5_any n hn 0 (by decide) _).mono ?_
              rw [HV.out]
              rintro e w5 ⟨rfl, h1⟩
              have hb6 := hby.trans (h1.mono hby.size)
              clear h1
              go_wp2
              go_roundg (5 - (j + 1))
              case measure => omega
              case rel => exact ⟨j + 1, by omega, by go_num, by rw [HS.out]; congr 1; omega, hb6⟩
          · have E1 : (((exV j : Nat) : Int) == (v : Int)) = false := beq_eq_false_iff_ne.2 (by omega)
            have HS := hideIt (show exS n 0 v (j + 1) = exS n 0 v j by show _ + (if _ then _ else _) = _; rw [if_neg hve, Int.add_zero])
            clear hve
            go_wp2_with (first | rw [HY.out] | (refine wpList_load_mid (by rfl) 57 _ rfl g4 (j * 2) rfl [.int .u8 (exV j), exF j] _ pr Tryd.underlying57 rfl size_ex ?_) | (refine wpList_store_row rfl 57 _ _ rfl wr.heap.size #[.int .u8 (exV j), exF j] rfl rfl 57 _ (heap_alloc_last _ _) size_ex rfl (ex_one j hj) ?_))
            go_roundg (5 - (j + 1))
            case measure => omega
            case rel => exact ⟨j + 1, by omega, by go_num, by rw [HS.out], hby⟩
        · obtain rfl : j = 5 := by omega
          have E := hideIt (show worthI n v 0 = kindsK n 0 6 + exS n 0 v 5 by unfold worthI; rw [if_pos HK.out, kinds_base]; rfl)
          go_wp2
          go_ret
          exact ⟨ret_int E.out.symm, hb.trans (hb4.trans (hb5.mono hb4.size) |>.mono hb.size)⟩

end Go.Proofs.YtccdelpiflcipaaDoor
