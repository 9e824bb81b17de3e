/- The walk of the reference's Side: of black (written by gen_eb.py). -/
import Derived.Test.YtccdelpiflcipaaDoorE9
import Derived.Test.YtccdelpiflcipaaDoorE8
namespace Go.Proofs.YtccdelpiflcipaaDoor
open Go Go.RowKit
set_option linter.unusedVariables false

set_option maxRecDepth 100000 in
set_option maxHeartbeats 4000000 in
theorem rside_1 (n : Nat → Int) (hn : PosOk n) (v : Nat) (hv : n 0 = v) (hv9 : v < 9) (w : World) :
    Calls Tryd.prog 14 #[.agg (posA n), .int .u8 1] w fun e w' => e = .returned (.int .i64 (worthI n v 1)) ∧ Below w.heap.size w w' := by
  have HF := hideIt (worthI_ref n v 1 hv9 (by decide))
  obtain ⟨X, hX⟩ : ∃ X, w.alloc (.cells (posA n) 31) = X := ⟨_, rfl⟩
  obtain ⟨p0, hb⟩ := box1 w n X hX
  have HX := hideIt hX
  have c0 : X.cell? ⟨w.heap.size, 0, none⟩ = some (.int .u8 v) := by rw [p0.cell 0 (by decide), hv]; rfl
  have HP := hideIt p0
  clear hX
  go_enter Tryd.func14, Tryd.ntmps14
  go_wp2_with (rw [HX.out])
  clear c0
  go_loopw [5, 6] (fun acc i wr => ∃ k : Nat, k ≤ 64 ∧ i = .int .i64 k ∧ acc = .int .i64 (rbK n v 1 k) ∧ Below X.heap.size X wr) (fun _ i _ => 64 - (intOf i).toNat)
  case atStart => exact ⟨0, by omega, rfl, rfl, Below.refl _ _⟩
  case round =>
    obtain ⟨k, hk, rfl, rfl, hr⟩ := hrel
    by_cases hlt : k < 64
    · have pr := HP.out.below hr HP.out.lt
      obtain ⟨i0, r0⟩ := pr.rules
      have S1 := hideIt (rbK_no n v 1 k)
      have S2 := hideIt (rbK_yes n v 1 k)
      obtain ⟨a0, a1⟩ := rbK_bd n v 1 k (by omega)
      generalize rbK n v 1 k = acc at S1 S2 a0 a1 ⊢
      clear pr p0
      go_wp2_with fail
      refine (rat_any n k _).mono ?_
      rintro e w1 ⟨rfl, h1⟩
      have hr := hr.trans (h1.mono hr.size)
      clear h1 i0 r0
      have hat := at_okE n k
      obtain ⟨x, hx⟩ : ∃ x, atN n (k : Int) = x := ⟨_, rfl⟩
      rw [hx] at S1 S2 hat ⊢
      clear hx
      rcases hat with rfl | hi
      · have S := hideIt (S1.out (fun h => h.1 rfl))
        clear S1 S2
        go_wp2
        go_roundw
        case rel => exact ⟨k + 1, by omega, by go_num, by rw [S.out], hr⟩
        case measure => simp [intOf]; omega
      · have z : (x == 0) = false := beq_eq_false_iff_ne.2 (by rw [isB_iff] at hi; omega)
        by_cases e1 : colI x = 1
        · have d1 : (colI x != 1) = false := by rw [bne, beq_iff_eq.2 e1]; rfl
          obtain ⟨k1, k2⟩ := knd_in hi
          obtain ⟨kd, hkd⟩ : ∃ kd : Nat, kndI x = kd := ⟨(kndI x).toNat, by omega⟩
          have S := hideIt (S2.out ⟨by rw [isB_iff] at hi; omega, e1⟩)
          rw [hkd] at S k1 k2
          obtain ⟨q0, q1⟩ : 0 ≤ sqI (k : Int) ∧ sqI (k : Int) ≤ 3 := by
            have h := sq_bd ⟨k, hlt⟩
            exact h
          obtain ⟨g0, g1⟩ := wort_bd (kd : Int)
          have HV := hideIt (show valI 1 (kd : Int) (k : Int) = wortI (kd : Int) - 4 * sqI (k : Int) + (if kd = 1 then 6 * (7 - (k : Int) / 8) else 0) by
            unfold valI
            rw [if_neg (show ¬ (1 : Int) = 0 by decide)]
            by_cases h : kd = 1
            · rw [if_pos (by omega), if_pos h]
            · rw [if_neg (by omega), if_neg h])
          obtain ⟨wo, hwo⟩ : ∃ wo, wortI (kd : Int) = wo := ⟨_, rfl⟩
          obtain ⟨sq, hsq⟩ : ∃ sq, sqI (k : Int) = sq := ⟨_, rfl⟩
          rw [hwo, hsq] at HV
          rw [hwo] at g0 g1
          rw [hsq] at q0 q1
          have HK := hideIt hkd
          have HW := hideIt hwo
          have HSQ := hideIt hsq
          clear hwo hsq hkd e1 hi S1 S2
          go_wp2_with fail
          refine (rcolor_any x _).mono ?_
          rintro e w2 ⟨rfl, h1⟩
          have hr := hr.trans (h1.mono hr.size)
          clear h1
          go_wp2_with fail
          refine (rkind_any x _).mono ?_
          rw [HK.out]
          rintro e w3 ⟨rfl, h1⟩
          have hr := hr.trans (h1.mono hr.size)
          clear h1 d1
          go_wp2_with fail
          refine (rpiece_any kd (by omega) _).mono ?_
          rw [HW.out]
          rintro e w4 ⟨rfl, rfl⟩
          go_wp2_with fail
          refine (rsquare_any k _).mono ?_
          rw [HSQ.out]
          rintro e w5 ⟨rfl, h1⟩
          have hr := hr.trans (h1.mono hr.size)
          clear h1
          by_cases e6 : kd = 6
          · have d6 : ((kd : Int) == 6) = true := beq_iff_eq.2 (by omega)
            have d1 : ((kd : Int) == 1) = false := beq_eq_false_iff_ne.2 (by omega)
            have HV := hideIt (HV.out.trans (by rw [if_neg (by omega)]))
            have c0 : (w5).cell? ⟨w.heap.size, 0, none⟩ = some (.int .u8 v) := by
              have := (HP.out.below hr HP.out.lt).cell 0 (by decide)
              rw [hv] at this; exact this
            by_cases e4 : v = 4
            · have d4 : ((v : Int) == 4) = true := beq_iff_eq.2 (by omega)
              have S := hideIt (S.out.trans (by rw [if_pos ⟨by omega, e4⟩]))
              clear e4 e6
              go_wp2
              go_roundw
              case rel => exact ⟨k + 1, by omega, by go_num, by rw [S.out, HV.out]; congr 1; omega, hr⟩
              case measure => simp [intOf]; omega
            · have d4 : ((v : Int) == 4) = false := beq_eq_false_iff_ne.2 (by omega)
              have S := hideIt (S.out.trans (by rw [if_neg (fun h => e4 h.2)]))
              clear e4 e6
              go_wp2
              go_roundw
              case rel => exact ⟨k + 1, by omega, by go_num, by rw [S.out, HV.out]; congr 1; omega, hr⟩
              case measure => simp [intOf]; omega
          · have d6 : ((kd : Int) == 6) = false := beq_eq_false_iff_ne.2 (by omega)
            have S := hideIt (S.out.trans (by rw [if_neg (fun h => by have := h.1; omega)]))
            by_cases e1 : kd = 1
            · have d1 : ((kd : Int) == 1) = true := beq_iff_eq.2 (by omega)
              have HV := hideIt (HV.out.trans (by rw [if_pos e1]))
              clear e6 e1
              go_wp2_with fail
              refine (rRank_any k _).mono ?_
              rw [rank_k k hlt]
              rintro e w6 ⟨rfl, rfl⟩
              go_wp2
              go_roundw
              case rel => exact ⟨k + 1, by omega, by go_num, by rw [S.out, HV.out]; congr 1; omega, hr⟩
              case measure => simp [intOf]; omega
            · have d1 : ((kd : Int) == 1) = false := beq_eq_false_iff_ne.2 (by omega)
              have HV := hideIt (HV.out.trans (by rw [if_neg e1]))
              clear e1 e6
              go_wp2
              go_roundw
              case rel => exact ⟨k + 1, by omega, by go_num, by rw [S.out, HV.out]; congr 1; omega, hr⟩
              case measure => simp [intOf]; omega
        · have d1 : (colI x != 1) = true := by rw [bne, beq_eq_false_iff_ne.2 e1]; rfl
          have S := hideIt (S1.out (fun h => e1 h.2))
          clear S1 S2 e1 hi
          go_wp2_with fail
          refine (rcolor_any x _).mono ?_
          rintro e w2 ⟨rfl, h1⟩
          have hr := hr.trans (h1.mono hr.size)
          clear h1
          go_wp2
          go_roundw
          case rel => exact ⟨k + 1, by omega, by go_num, by rw [S.out], hr⟩
          case measure => simp [intOf]; omega
    · obtain rfl : k = 64 := by omega
      have pr := HP.out.below hr HP.out.lt
      obtain ⟨i0, r0⟩ := pr.rules
      obtain ⟨a0, a1⟩ := rbK_bd n v 1 64 (by omega)
      have HF := hideIt HF.out
      generalize rbK n v 1 64 = acc at HF a0 a1 ⊢
      clear pr p0
      obtain ⟨f0, f1⟩ := first_bd (ofN n 1 6)
      have KH := hideIt (show kingI n ((1 : Nat) : Int) (fun s => -30 * sqI s) = if firstB (ofN n 1 6) < 0 then 0 else -30 * sqI (firstB (ofN n 1 6)) from rfl)
      have KR := hideIt (show kingI n ((1 : Nat) : Int) (fun s => 60 * (s / 8)) = if firstB (ofN n 1 6) < 0 then 0 else 60 * (firstB (ofN n 1 6) / 8) from rfl)
      obtain ⟨fs, hfs⟩ : ∃ fs, firstB (ofN n 1 6) = fs := ⟨_, rfl⟩
      rw [hfs] at f0 f1 KH KR
      have HFS := hideIt hfs
      clear hfs hlt
      go_wp2_with fail
      refine (rbfind_any n 1 6 _).mono ?_
      rw [HFS.out]
      rintro e w2 ⟨rfl, h1⟩
      have hr := hr.trans (h1.mono hr.size)
      clear h1 i0 r0 HFS
      have c0 : w2.cell? ⟨w.heap.size, 0, none⟩ = some (.int .u8 v) := by
        have := (HP.out.below hr HP.out.lt).cell 0 (by decide)
        rw [hv] at this; exact this
      have hvs : v = 2 ∨ v = 5 ∨ v = 6 ∨ v = 8 ∨ (v ≠ 2 ∧ v ≠ 5 ∧ v ≠ 6 ∧ v ≠ 8) := by omega
      rcases hvs with e | e | e | e | ⟨e2, e5, e6, e8⟩
      · have d2 : ((v : Int) == 2) = true := beq_iff_eq.2 (by omega)
        have HF := hideIt (HF.out.trans (by unfold tailI; rw [if_pos e]))
        clear e KH KR
        have HB := hideIt (held_bd n hn 1 (by decide))
        have H8 : Hid (∀ k, k < 6 → kindAt (72 + k) = .u8) := fun k hk => by
          unfold kindAt
          rw [if_neg (by omega), if_neg (by omega), if_pos (by omega)]
        have HR := hideIt hr
        clear hr
        go_wp2
        go_loopw [5, 10] (fun a i wr => ∃ k : Nat, k ≤ 6 ∧ i = .int .i64 k ∧ a = .int .i64 (acc + heldI n 1 k) ∧ Below X.heap.size X wr) (fun _ i _ => 6 - (intOf i).toNat)
        case atStart => exact ⟨0, by omega, rfl, by show _ = Value.int IntKind.i64 (acc + 0); rw [Int.add_zero], HR.out⟩
        case round =>
          clear HR c0
          obtain ⟨k, hk, rfl, rfl, hb2⟩ := hrel
          by_cases hlt : k < 6
          · have pr := HP.out.below hb2 HP.out.lt
            have ck := pr.cell (72 + k) (by omega)
            rw [H8.out k hlt] at ck
            obtain ⟨h0, h1⟩ := HB.out k hk
            obtain ⟨g0, g1⟩ := wort_bd (k : Int)
            obtain ⟨y0, y1⟩ := hn.u8 (72 + k) (by omega) (H8.out k hlt)
            have HE := hideIt (show heldI n 1 (k + 1) = heldI n 1 k + wortI k * n (72 + k) from rfl)
            obtain ⟨x, hx⟩ : ∃ x, n (72 + k) = x := ⟨_, rfl⟩
            obtain ⟨v, hv⟩ : ∃ v, wortI (k : Int) = v := ⟨_, rfl⟩
            have m1 : 0 ≤ x * v := by rw [← hx, ← hv]; exact Int.mul_nonneg y0 g0
            have m2 : x * v ≤ 255 * 900 := by rw [← hx, ← hv]; exact Int.mul_le_mul y1 g1 g0 (by decide)
            generalize heldI n 1 k = hd at HE h0 h1 ⊢
            rw [hx, hv, Int.mul_comm v x] at HE
            rw [hx] at ck y0 y1
            have HV := hideIt hv
            have hk9 : (k : Int) ≤ 255 := by omega
            have F0 : ∀ m, Calls Tryd.prog 10 #[.int .u8 (k : Int)] (wr.drewN m) fun e w' => e = .returned (.int .i64 v) ∧ wr.drewN m = w' := fun m => by
              have := rpiece_any k (by omega) (wr.drewN m)
              rwa [HV.out] at this
            have F1 := hideIt F0
            have W1 : IntKind.i64.wrap x = x := IntWalk.i64_in x (by omega)
            have W2 : IntKind.i64.wrap (x * v) = x * v := IntWalk.i64_in (x * v) (by omega)
            have W3 : IntKind.i64.wrap (acc + hd + x * v) = acc + hd + x * v := IntWalk.i64_in (acc + hd + x * v) (by omega)
            clear hx hv g0 g1 F0 pr
            go_wp2
            go_quiet ((go_at_call 10; exact quietEq (F1.out _)))
            go_wp2
            go_roundw
            case rel => exact ⟨k + 1, by omega, by go_num, by rw [HE.out]; congr 1; omega, hb2.trans ((blN _ _).mono hb2.size)⟩
            case measure => simp [intOf]; omega
          · obtain rfl : k = 6 := by omega
            go_wp2
            go_ret
            exact ⟨ret_int HF.out.symm, hb.trans (hb2.mono hb.size)⟩
      · have d2 : ((v : Int) == 2) = false := beq_eq_false_iff_ne.2 (by omega)
        have d5 : ((v : Int) == 5) = true := beq_iff_eq.2 (by omega)
        have HF := hideIt (HF.out.trans (by unfold tailI; rw [if_neg (by omega), if_pos e]))
        have c85 := (HP.out.below hr HP.out.lt).cell 85 (by decide)
        rw [show kindAt 85 = IntKind.u8 from rfl] at c85
        obtain ⟨y0, y1⟩ := hn.u8 85 (by omega) rfl
        clear e KH KR
        go_wp2
        go_ret
        exact ⟨ret_int HF.out.symm, hb.trans (hr.mono hb.size)⟩
      · have d2 : ((v : Int) == 2) = false := beq_eq_false_iff_ne.2 (by omega)
        have d5 : ((v : Int) == 5) = false := beq_eq_false_iff_ne.2 (by omega)
        have d6 : ((v : Int) == 6) = true := beq_iff_eq.2 (by omega)
        have HF := hideIt (HF.out.trans (by unfold tailI; rw [if_neg (by omega), if_neg (by omega), if_pos e, KH.out]))
        clear e KH KR
        by_cases hz : fs < 0
        · have HF := hideIt (HF.out.trans (by rw [if_pos hz, Int.add_zero]))
          go_wp2
          go_ret
          exact ⟨ret_int HF.out.symm, hb.trans (hr.mono hb.size)⟩
        · have HF := hideIt (HF.out.trans (by rw [if_neg hz]))
          obtain ⟨q0, q1⟩ : 0 ≤ sqI fs ∧ sqI fs ≤ 3 := by
            have h := sq_bd ⟨fs.toNat, by omega⟩
            rwa [show (((⟨fs.toNat, by omega⟩ : Fin 64).val : Nat) : Int) = fs by show ((fs.toNat : Nat) : Int) = fs; omega] at h
          obtain ⟨sq, hsq⟩ : ∃ sq, sqI fs = sq := ⟨_, rfl⟩
          rw [hsq] at HF q0 q1
          have HSQ := hideIt hsq
          have hz0 : 0 ≤ fs := by omega
          clear hsq hz
          go_wp2_with fail
          refine (rsquare_any fs _).mono ?_
          rw [HSQ.out]
          rintro e w5 ⟨rfl, h1⟩
          have hr := hr.trans (h1.mono hr.size)
          clear h1
          go_wp2
          go_ret
          exact ⟨ret_int (by rw [HF.out]; omega), hb.trans (hr.mono hb.size)⟩
      · have d2 : ((v : Int) == 2) = false := beq_eq_false_iff_ne.2 (by omega)
        have d5 : ((v : Int) == 5) = false := beq_eq_false_iff_ne.2 (by omega)
        have d6 : ((v : Int) == 6) = false := beq_eq_false_iff_ne.2 (by omega)
        have d8 : ((v : Int) == 8) = true := beq_iff_eq.2 (by omega)
        have HF := hideIt (HF.out.trans (by unfold tailI; rw [if_neg (by omega), if_neg (by omega), if_neg (by omega), if_pos e, KR.out]))
        clear e KH KR
        by_cases hz : fs < 0
        · have HF := hideIt (HF.out.trans (by rw [if_pos hz, Int.add_zero]))
          go_wp2
          go_ret
          exact ⟨ret_int HF.out.symm, hb.trans (hr.mono hb.size)⟩
        · have HF := hideIt (HF.out.trans (by rw [if_neg hz]))
          have hz0 : 0 ≤ fs := by omega
          have HR := hideIt (show rankI fs = fs / 8 by unfold rankI; rw [if_pos ⟨hz0, f1⟩])
          clear hz
          go_wp2_with fail
          refine (rRank_any fs _).mono ?_
          rw [HR.out]
          rintro e w5 ⟨rfl, rfl⟩
          go_wp2
          go_ret
          exact ⟨ret_int HF.out.symm, hb.trans (hr.mono hb.size)⟩
      · have d2 : ((v : Int) == 2) = false := beq_eq_false_iff_ne.2 (by omega)
        have d5 : ((v : Int) == 5) = false := beq_eq_false_iff_ne.2 (by omega)
        have d6 : ((v : Int) == 6) = false := beq_eq_false_iff_ne.2 (by omega)
        have d8 : ((v : Int) == 8) = false := beq_eq_false_iff_ne.2 (by omega)
        have HF := hideIt (HF.out.trans (by unfold tailI; rw [if_neg e2, if_neg e5, if_neg e6, if_neg e8, Int.add_zero]))
        clear e2 e5 e6 e8 KH KR
        go_wp2
        go_ret
        exact ⟨ret_int HF.out.symm, hb.trans (hr.mono hb.size)⟩

end Go.Proofs.YtccdelpiflcipaaDoor
