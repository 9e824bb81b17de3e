/- The walk of the reference's Start960. -/
import Derived.Test.YtpheapolijhgjaaVZ2
import Derived.BigRegion
namespace Go.Proofs.Ytpheapolijhgjaa
open Go Go.RowKit
set_option linter.unusedVariables false

set_option maxRecDepth 100000 in
set_option maxHeartbeats 8000000 in
theorem rstart960_any (n : Nat) (hn : n < 960) (w : World) : Calls Try.prog 25 #[.int .i64 (n : Int)] w fun e w' => e = .returned (.agg (posA (start960N n))) ∧ Below w.heap.size w w' := by
  have hzp := zeroPos
  have hz8 := zero8
  obtain ⟨X, hX⟩ : ∃ X, (w.alloc (.cells (posA zeroN) 40)).alloc (.cells (r8 zeroN) 58) = X := ⟨_, rfl⟩
  have B : RowB w X (qr zeroN) := by
    rw [← hX]
    refine ⟨(PosAt.new w zeroN).alloc _, ?_, ((Below.refl _ _).alloc (Nat.le_refl _) _).alloc (by simp) _⟩
    have := R8At.new (w.alloc (.cells (posA zeroN) 40)) zeroN
    rw [show qr zeroN = zeroN from funext fun k => rfl]
    simpa using this
  have HX := hideIt hX
  clear hX
  have B1 := B.set (1 + 2 * (n % 4)) 66
  have B2 := B1.set (2 * (n / 4 % 4)) 66
  have e2 : upd (upd (qr zeroN) (1 + 2 * (n % 4)) 66) (2 * (n / 4 % 4)) 66 = qr (row2 n) := by
    unfold row2 row1
    rw [qr_upd, qr_upd, show 1 + 2 * (n % 4) = 2 * (n % 4) + 1 by omega]; rfl
  rw [e2] at B2
  have c1 := B.row.cell (1 + 2 * (n % 4)) (by omega)
  have f1 := B.row.free (1 + 2 * (n % 4))
  have c2 := B1.row.cell (2 * (n / 4 % 4)) (by omega)
  have f2 := B1.row.free (2 * (n / 4 % 4))
  clear e2
  go_enter Try.func25, Try.ntmps25
  go_upto_region 4 with (first | rw [HX.out])
  generalize World.setCell (World.setCell X _ _) _ _ = V2 at B2 ⊢
  clear c1 f1 c2 f2 B B1 HX
  obtain ⟨i2, r2⟩ := B2.row.rules
  go_wp2_with fail
  refine (empties_any (qr (row2 n)) _).mono ?_
  rw [emp_qr (rok2 n)]
  rintro e Y ⟨v2, rfl, ow, h1⟩
  have B2 := B2.then h1
  clear h1 i2 r2
  obtain ⟨fl, fx⟩ := fa ⟨n, hn⟩
  simp only at fl fx
  rcases ow.form with ⟨h0, _⟩ | ⟨gl, cl, rfl, hgl, hsl, _, hcell, _⟩
  · rw [h0] at fl; cases fl
  obtain ⟨j, hj⟩ : ∃ j : Nat, emp (row2 n) ((n / 4 / 4 % 6 : Nat) : Int) = j := ⟨_, (Int.toNat_of_nonneg (emp_bd _ _).1).symm⟩
  have hj8 : j < 8 := by have := (emp_bd (row2 n) ((n / 4 / 4 % 6 : Nat) : Int)).2; omega
  rw [hj] at fx
  have cx : Y.cell? ⟨gl, n / 16 % 6, none⟩ = some (.int .i64 (j : Int)) := by
    have hlt : n / 16 % 6 < (empL (row2 n)).length := by rw [fl]; omega
    rw [hcell _ hlt]
    rw [List.getElem?_eq_getElem hlt] at fx
    injection fx with fx
    rw [fx]
  have B3 := B2.set j 81
  have c3 := B2.row.cell j hj8
  have f3 := B2.row.free j
  have e3 : upd (qr (row2 n)) j 81 = qr (row3 n) := by
    unfold row3
    rw [qr_upd, hj, Int.toNat_natCast]; rfl
  rw [e3] at B3
  rw [fl]
  clear e3 hj fx hcell ow
  go_upto_region 6 with fail
  generalize World.setCell Y _ _ = V3 at B3 ⊢
  clear c3 f3 B2 cx fl
  obtain ⟨i2, r2⟩ := B3.row.rules
  go_wp2_with fail
  refine (empties_any (qr (row3 n)) _).mono ?_
  rw [emp_qr (rok3 n)]
  rintro e Y3 ⟨v3, rfl, ow, h1⟩
  have B3 := B3.then h1
  clear h1 i2 r2 hgl hsl
  obtain ⟨fl, fx⟩ := fb ⟨n, hn⟩
  simp only at fl fx
  rcases ow.form with ⟨h0, _⟩ | ⟨gl, cl, rfl, hgl, hsl, _, hcell, _⟩
  · rw [h0] at fl; cases fl
  have hbase : w.heap.size + 1 < V3.heap.size := ‹RowB w V3 (qr (row3 n))›.row.lt
  rw [fl]
  have cl5 : ∀ a : Fin 5, ∃ e : Nat, e < 8 ∧ emp (row3 n) (a.val : Int) = e ∧ Y3.cell? ⟨gl, a.val, none⟩ = some (.int .i64 (e : Int)) := by
    intro a
    have hlt : a.val < (empL (row3 n)).length := by rw [fl]; exact a.isLt
    have h := fx a
    rw [List.getElem?_eq_getElem hlt] at h
    injection h with h
    refine ⟨(emp (row3 n) (a.val : Int)).toNat, by have := emp_bd (row3 n) (a.val : Int); omega, (Int.toNat_of_nonneg (emp_bd _ _).1).symm, ?_⟩
    rw [hcell _ hlt, h, Int.toNat_of_nonneg (emp_bd _ _).1]
  have HCL := hideIt cl5
  have hrl : w.heap.size + 1 < gl := by omega
  have B3 : RowB w Y3 (rowAt n 0) := by rw [show rowAt n 0 = qr (row3 n) from if_pos (Nat.zero_le _)]; exact B3
  clear cl5 fx hcell ow fl hgl
  have hk : n / 96 ≤ 9 := by omega
  go_wp2_with fail
  go_loopg [6, 7] 5 (fun gk c a wr => ∃ a' : Nat, a' + gk = 5 ∧ a = .int .i64 a' ∧ c = .int .i64 (idxA a' : Nat) ∧ RowB w wr (rowAt n (idxA a')) ∧ Hid (∀ i, wr.cell? ⟨gl, i, none⟩ = Y3.cell? ⟨gl, i, none⟩))
  case atStart => exact ⟨0, rfl, rfl, rfl, B3, fun _ => rfl⟩
  case round =>
    clear B3
    obtain ⟨a, hga, rfl, rfl, BA, HY⟩ := hrel
    by_cases hlt : a < 5
    · have hidx : idxA a ≤ 10 := by unfold idxA; repeat (first | omega | split)
      go_wp2
      go_loopg [6, 8] (5 - (a + 1)) (fun g2 c b wy => ∃ b' : Nat, b' + g2 = 5 ∧ a < b' ∧ b = .int .i64 b' ∧ c = .int .i64 ((idxA a + (b' - a - 1) : Nat) : Int) ∧ RowB w wy (rowAt n (idxA a + (b' - a - 1))) ∧ Hid (∀ i, wy.cell? ⟨gl, i, none⟩ = Y3.cell? ⟨gl, i, none⟩))
      case atStart => exact ⟨a + 1, by omega, by omega, by go_num, by rw [show a + 1 - a - 1 = 0 by omega, Nat.add_zero], by rw [show a + 1 - a - 1 = 0 by omega, Nat.add_zero]; exact BA, HY⟩
      case round =>
        clear BA HY
        obtain ⟨b, hgb, hab, rfl, rfl, BB, HY⟩ := hrel
        by_cases hb5 : b < 5
        · obtain ⟨ip, iq, i9⟩ := idx_pair ⟨a, hlt⟩ ⟨b, hb5⟩ hab
          simp only at ip iq i9
          obtain ⟨c, hc⟩ : ∃ c, idxA a + (b - a - 1) = c := ⟨_, rfl⟩
          have hc1 : idxA a + (b + 1 - a - 1) = c + 1 := by omega
          rw [hc] at BB ip iq i9 ⊢
          have HC1 := hideIt hc1
          clear hc hc1
          by_cases hck : c = n / 96
          · have e1 : ((c : Int) == (n : Int) / 96) = true := beq_iff_eq.2 (by omega)
            obtain ⟨ea, ea8, ha, ca⟩ := HCL.out ⟨a, hlt⟩
            obtain ⟨eb, eb8, hb, cb⟩ := HCL.out ⟨b, hb5⟩
            simp only at ha ca hb cb
            have ca := (HY.out a).trans ca
            have cb := (HY.out b).trans cb
            have hrow : rowAt n c = qr (row3 n) := if_pos (by omega)
            have hrow1 : rowAt n (c + 1) = qr (row4 n) := if_neg (by omega)
            have hn4 : n / 4 / 4 / 6 = c := by omega
            have hr4 : upd (upd (qr (row3 n)) ea 78) eb 78 = qr (row4 n) := by
              unfold row4
              rw [qr_upd, qr_upd, hn4, ip, iq, ha, hb, Int.toNat_natCast, Int.toNat_natCast]; rfl
            rw [hrow] at BB
            have cra := BB.row.cell ea ea8
            have fra := BB.row.free ea
            have BB1 := BB.set ea 78
            have crb := BB1.row.cell eb eb8
            have frb := BB1.row.free eb
            have BB2 := BB1.set eb 78
            rw [hr4, ← hrow1] at BB2
            have cb2 : (wr.setCell ⟨w.heap.size + 1, ea, none⟩ (.int .u8 78)).cell? ⟨gl, b, none⟩ = some (.int .i64 (eb : Int)) := (World.cell?_setCell_other wr ⟨w.heap.size + 1, ea, none⟩ ⟨gl, b, none⟩ _ (by intro h; cases h; omega)).trans cb
            have HY2 : Hid (∀ i, ((wr.setCell ⟨w.heap.size + 1, ea, none⟩ (.int .u8 78)).setCell ⟨w.heap.size + 1, eb, none⟩ (.int .u8 78)).cell? ⟨gl, i, none⟩ = Y3.cell? ⟨gl, i, none⟩) := fun i =>
              (World.cell?_setCell_other _ ⟨w.heap.size + 1, eb, none⟩ ⟨gl, i, none⟩ _ (by intro h; cases h; omega)).trans ((World.cell?_setCell_other _ ⟨w.heap.size + 1, ea, none⟩ ⟨gl, i, none⟩ _ (by intro h; cases h; omega)).trans (HY.out i))
            clear hck ha hb hrow hrow1 hn4 hr4 ip iq HY BB BB1
            go_wp2
            go_roundg (5 - (b + 1))
            case measure => omega
            case rel => exact ⟨b + 1, by omega, by omega, by go_num, by rw [HC1.out]; go_num, by rw [HC1.out]; exact BB2, HY2⟩
          · have e1 : ((c : Int) == (n : Int) / 96) = false := beq_eq_false_iff_ne.2 (by omega)
            have hrow : rowAt n (c + 1) = rowAt n c := by
              unfold rowAt
              by_cases h : c + 1 ≤ n / 96
              · rw [if_pos h, if_pos (by omega)]
              · rw [if_neg h, if_neg (by omega)]
            have HR := hideIt hrow
            clear hck hrow ip iq
            go_wp2
            go_roundg (5 - (b + 1))
            case measure => omega
            case rel => exact ⟨b + 1, by omega, by omega, by go_num, by rw [HC1.out]; go_num, by rw [HC1.out, HR.out]; exact BB, HY⟩
        · obtain rfl : b = 5 := by omega
          have HI := hideIt (idx_succ ⟨a, hlt⟩)
          go_wp2
          go_roundg (5 - (a + 1))
          case measure => omega
          case rel => exact ⟨a + 1, by omega, by go_num, by rw [HI.out]; go_num, by rw [HI.out]; exact BB, HY⟩
    · obtain rfl : a = 5 := by omega
      have hr10 : rowAt n (idxA 5) = qr (row4 n) := if_neg (by show ¬ 10 ≤ n / 96; omega)
      rw [hr10] at BA
      clear HY HCL hr10
      obtain ⟨i2, r2⟩ := BA.row.rules
      go_wp2_with fail
      refine (empties_any (qr (row4 n)) _).mono ?_
      rw [emp_qr (rok4 n), show empL (row4 n) = _ from fc ⟨n, hn⟩]
      rintro e Y4 ⟨v4, rfl, ow, h1⟩
      have hbw : w.heap.size + 1 < wr.heap.size := BA.row.lt
      have B4 := BA.then h1
      clear h1 i2 r2 BA hsl
      obtain ⟨j0, hj0⟩ : ∃ j : Nat, emp (row4 n) 0 = j := ⟨_, (Int.toNat_of_nonneg (emp_bd _ _).1).symm⟩
      obtain ⟨j1, hj1⟩ : ∃ j : Nat, emp (row5 n) 0 = j := ⟨_, (Int.toNat_of_nonneg (emp_bd _ _).1).symm⟩
      obtain ⟨j2, hj2⟩ : ∃ j : Nat, emp (row6 n) 0 = j := ⟨_, (Int.toNat_of_nonneg (emp_bd _ _).1).symm⟩
      have l0 : j0 < 8 := by have := (emp_bd (row4 n) 0).2; omega
      have l1 : j1 < 8 := by have := (emp_bd (row5 n) 0).2; omega
      have l2 : j2 < 8 := by have := (emp_bd (row6 n) 0).2; omega
      rw [hj0, hj1, hj2] at ow
      rcases ow.form with ⟨h0, _⟩ | ⟨gs, cs, rfl, hgs, hss, _, hcell, _⟩
      · cases h0
      have s0 : Y4.cell? ⟨gs, 0, none⟩ = some (.int .i64 (j0 : Int)) := hcell 0 (by decide : 0 < 3)
      have s1 : Y4.cell? ⟨gs, 1, none⟩ = some (.int .i64 (j1 : Int)) := hcell 1 (by decide : 1 < 3)
      have s2 : Y4.cell? ⟨gs, 2, none⟩ = some (.int .i64 (j2 : Int)) := hcell 2 (by decide : 2 < 3)
      have hne : ∀ (W : World) (j : Nat) (v : Value) (i : Nat), (W.setCell ⟨w.heap.size + 1, j, none⟩ v).cell? ⟨gs, i, none⟩ = W.cell? ⟨gs, i, none⟩ := fun W j v i => World.cell?_setCell_other W ⟨w.heap.size + 1, j, none⟩ ⟨gs, i, none⟩ v (by intro h; cases h; omega)
      have e5 : upd (qr (row4 n)) j0 82 = qr (row5 n) := by unfold row5; rw [qr_upd, hj0, Int.toNat_natCast]; rfl
      have e6 : upd (qr (row5 n)) j1 75 = qr (row6 n) := by unfold row6; rw [qr_upd, hj1, Int.toNat_natCast]; rfl
      have e7 : upd (qr (row6 n)) j2 82 = qr (row7 n) := by unfold row7; rw [qr_upd, hj2, Int.toNat_natCast]; rfl
      have B5 := B4.set j0 82
      rw [e5] at B5
      have B6 := B5.set j1 75
      rw [e6] at B6
      have B7 := B6.set j2 82
      rw [e7] at B7
      have c0 := B4.row.cell j0 l0
      have c1 := B5.row.cell j1 l1
      have c2 := B6.row.cell j2 l2
      have f0 := B4.row.free j0
      have f1 := B5.row.free j1
      have f2 := B6.row.free j2
      have t1 : (Y4.setCell ⟨w.heap.size + 1, j0, none⟩ (.int .u8 82)).cell? ⟨gs, 1, none⟩ = some (.int .i64 (j1 : Int)) := (hne _ _ _ _).trans s1
      have t2 : ((Y4.setCell ⟨w.heap.size + 1, j0, none⟩ (.int .u8 82)).setCell ⟨w.heap.size + 1, j1, none⟩ (.int .u8 75)).cell? ⟨gs, 2, none⟩ = some (.int .i64 (j2 : Int)) := (hne _ _ _ _).trans ((hne _ _ _ _).trans s2)
      have u0 : (((Y4.setCell ⟨w.heap.size + 1, j0, none⟩ (.int .u8 82)).setCell ⟨w.heap.size + 1, j1, none⟩ (.int .u8 75)).setCell ⟨w.heap.size + 1, j2, none⟩ (.int .u8 82)).cell? ⟨gs, 0, none⟩ = some (.int .i64 (j0 : Int)) := (hne _ _ _ _).trans ((hne _ _ _ _).trans ((hne _ _ _ _).trans s0))
      have u2 : (((Y4.setCell ⟨w.heap.size + 1, j0, none⟩ (.int .u8 82)).setCell ⟨w.heap.size + 1, j1, none⟩ (.int .u8 75)).setCell ⟨w.heap.size + 1, j2, none⟩ (.int .u8 82)).cell? ⟨gs, 2, none⟩ = some (.int .i64 (j2 : Int)) := (hne _ _ _ _).trans ((hne _ _ _ _).trans ((hne _ _ _ _).trans s2))
      have us : gs < (((Y4.setCell ⟨w.heap.size + 1, j0, none⟩ (.int .u8 82)).setCell ⟨w.heap.size + 1, j1, none⟩ (.int .u8 75)).setCell ⟨w.heap.size + 1, j2, none⟩ (.int .u8 82)).heap.size := by simpa using hss
      clear e5 e6 e7 ow hcell hne s1 s2
      go_upto_region 23 with fail
      generalize World.setCell (World.setCell (World.setCell Y4 _ _) _ _) _ _ = V7 at B7 u0 u2 us ⊢
      clear c0 c1 c2 f0 f1 f2 t1 t2 s0 B4 B5 B6
      obtain ⟨gw, hgw⟩ : ∃ gw, V7.heap.size = gw := ⟨_, rfl⟩
      obtain ⟨V8, hV8⟩ : ∃ V8, V7.alloc (.cells (r8 zeroN) 58) = V8 := ⟨_, rfl⟩
      have B8 : RowB w V8 (qr (row7 n)) := by rw [← hV8]; exact ⟨B7.res.alloc _, B7.row.alloc _, B7.below.alloc B7.below.size _⟩
      have R8 : R8At V8 gw zeroN := by rw [← hV8, ← hgw]; exact R8At.new V7 zeroN
      have u0 : V8.cell? ⟨gs, 0, none⟩ = some (.int .i64 (j0 : Int)) := by rw [← hV8, World.cell?_alloc_lt _ _ _ us]; exact u0
      have u2 : V8.cell? ⟨gs, 2, none⟩ = some (.int .i64 (j2 : Int)) := by rw [← hV8, World.cell?_alloc_lt _ _ _ us]; exact u2
      have hrg : w.heap.size + 1 < gw := by rw [← hgw]; exact B7.row.lt
      have hgs2 : gs < gw := by rw [← hgw]; exact us
      have HV := hideIt hV8
      have HG := hideIt hgw
      clear hV8 hgw B7
      go_wp2_with (rw [HV.out, HG.out])
      obtain ⟨q, hq⟩ : ∃ q, qr (row7 n) = q := ⟨_, rfl⟩
      have hqb : ∀ k, 0 ≤ q k ∧ q k ≤ 82 := by rw [← hq]; exact fun k => toL_bd _
      rw [hq] at B8
      have HQ := hideIt hq
      have HB := hideIt hqb
      clear hq hqb HV HG us
      go_loopw [10] (fun i wr => ∃ k : Nat, k ≤ 8 ∧ i = .int .i64 k ∧ RowB w wr q ∧ R8At wr gw (lowK q k) ∧ Hid (wr.cell? ⟨gs, 0, none⟩ = some (.int .i64 (j0 : Int)) ∧ wr.cell? ⟨gs, 2, none⟩ = some (.int .i64 (j2 : Int)))) (fun i _ => 8 - (intOf i).toNat)
      case atStart => exact ⟨0, by omega, rfl, B8, R8, u0, u2⟩
      case round =>
        clear B8 R8 u0 u2
        obtain ⟨k, hk8, rfl, BB, RR, UU⟩ := hrel
        by_cases hlt8 : k < 8
        · have cq := BB.row.cell k hlt8
          obtain ⟨x0, x1⟩ := HB.out k
          have cl := RR.cell k hlt8
          have fl := RR.free k
          have R2 := RR.set k (q k + 32)
          have B2 : RowB w (wr.setCell ⟨gw, k, none⟩ (.int .u8 (q k + 32))) q := ⟨BB.res.other (by omega) _, BB.row.other (by omega) _, BB.below.setCell (by show w.heap.size ≤ gw; omega) _⟩
          have U2 : Hid ((wr.setCell ⟨gw, k, none⟩ (.int .u8 (q k + 32))).cell? ⟨gs, 0, none⟩ = some (.int .i64 (j0 : Int)) ∧ (wr.setCell ⟨gw, k, none⟩ (.int .u8 (q k + 32))).cell? ⟨gs, 2, none⟩ = some (.int .i64 (j2 : Int))) :=
            ⟨(World.cell?_setCell_other _ ⟨gw, k, none⟩ ⟨gs, 0, none⟩ _ (by intro h; cases h; omega)).trans UU.out.1, (World.cell?_setCell_other _ ⟨gw, k, none⟩ ⟨gs, 2, none⟩ _ (by intro h; cases h; omega)).trans UU.out.2⟩
          clear BB RR UU
          go_wp2
          go_roundw
          case rel => exact ⟨k + 1, by omega, by go_num, B2, R2, U2⟩
          case measure => simp [intOf]; omega
        · obtain rfl : k = 8 := by omega
          clear HB hlt8 hk8
          go_upto_region 28 with fail
          go_cut [11] (fun s11 wx => ∃ gp : Nat, s11 = .pointer (some { block := gp, off := 0 }) ∧ PosAt wx gp (ofK 1 (rows960 q) 8) ∧ PosAt wx w.heap.size zeroN ∧ w.heap.size < gp ∧ Below w.heap.size w wx ∧ wx.cell? ⟨gs, 0, none⟩ = some (.int .i64 (j0 : Int)) ∧ wx.cell? ⟨gs, 2, none⟩ = some (.int .i64 (j2 : Int)))
          case first =>
            go_region_held3 (fun W => ((convert 22 9 (.slice (some ⟨gw, 0, none⟩) 8 8)).run Try.prog W = .ok (.string (rows960 q 0)) W ∧ (convert 22 9 (.slice (some ⟨w.heap.size + 1, 0, none⟩) 8 8)).run Try.prog W = .ok (.string (rows960 q 7)) W) ∧ Below wr.heap.size wr W) ((refine keepC RR BB.row ?_; repeat (first | exact Below.refl _ _ | assumption | refine bl_drew ?_ | refine bl_new ?_ (Nat.le_refl _) | refine bl_then ?_ (by assumption) | refine bl_r1 ?_ | refine bl_r2 ?_ | refine bl_r3 ?_))) ((first | (go_at_call 34; ((with_reducible refine (rof1 _ _).mono ?_); rintro e w5 ⟨rfl, h1⟩)) | (go_at_call 34; ((with_reducible refine (rof2 _ _).mono ?_); rintro e w5 ⟨rfl, h1, hp⟩; obtain ⟨ip, rp⟩ := hp.rules)) | (go_at_call 34; ((with_reducible refine (rof3 _ _).mono ?_); rintro e w5 ⟨rfl, h1, hp⟩; obtain ⟨ip, rp⟩ := hp.rules))))
            all_goals
              have hq := And.right ‹(_ ∧ _) ∧ Below wr.heap.size wr _›
              have hrs := BB.row.lt
              have hss := hq.size
              have hgc := World.block_lt_of_cell? _ _ UU.out.1
              simp only [World.setRow, Array.size_modify, World.size_alloc] at hss
              go_wp2_with fail
              go_meet
              refine ⟨_, rfl, ?_, BB.res.below hq BB.res.lt, by omega, BB.below.trans (hq.mono BB.below.size), (hq.cell (p := ⟨gs, 0, none⟩) hgc).trans UU.out.1, (hq.cell (p := ⟨gs, 2, none⟩) hgc).trans UU.out.2⟩
              first | exact (PosAt.new w5 zeroN).setRow _ | exact PosAt.setRow (by assumption) _
          case rest =>
            clear RR BB UU
            obtain ⟨gp, rfl, hp, hr, hgp, hbel, u0, u2⟩ := hcut
            have HQ7 := hideIt (of960_eq n hn)
            rw [HQ.out, hj0, hj2] at HQ7
            clear HQ hj0 hj1 hj2
            obtain ⟨m, hm⟩ : ∃ m, ofK 1 (rows960 q) 8 = m := ⟨_, rfl⟩
            rw [hm] at hp HQ7
            clear hm
            have c79 : wc.cell? ⟨gp, 79, none⟩ = some (.int .i8 (m 79)) := hp.cell 79 (by decide)
            have c80 : wc.cell? ⟨gp, 80, none⟩ = some (.int .i8 (m 80)) := hp.cell 80 (by decide)
            have c81 : wc.cell? ⟨gp, 81, none⟩ = some (.int .i8 (m 81)) := hp.cell 81 (by decide)
            have c82 : wc.cell? ⟨gp, 82, none⟩ = some (.int .i8 (m 82)) := hp.cell 82 (by decide)
            have f79 := hp.free 79
            have f80 := hp.free 80
            have f81 := hp.free 81
            have f82 := hp.free 82
            have w0 : IntKind.i8.wrap (j0 : Int) = j0 := i8_small ⟨j0, by omega⟩
            have w2 : IntKind.i8.wrap (j2 : Int) = j2 := i8_small ⟨j2, by omega⟩
            have B : Bld w w.heap.size gp wc m := ⟨hr, hp, by omega, ⟨Nat.le_refl _, by omega⟩, hbel⟩
            have L := ((((B.set 79 (j2 : Int) (k := .i8) rfl).set 80 (j0 : Int) (k := .i8) rfl).set 81 (j2 : Int) (k := .i8) rfl).set 82 (j0 : Int) (k := .i8) rfl).drew
            have L' : Bld w w.heap.size gp ((((wc.setCell ⟨gp, 79, none⟩ (.int .i8 j2)).setCell ⟨gp, 80, none⟩ (.int .i8 j0)).setCell ⟨gp, 81, none⟩ (.int .i8 j2)).setCell ⟨gp, 82, none⟩ (.int .i8 j0)).drew (upd (upd (upd (upd m 79 j2) 80 j0) 81 j2) 82 j0) := L
            clear L B hp hr hbel
            go_upto_region 29 with fail
            go_region
            all_goals
              obtain ⟨i1, r1⟩ := L'.new.rules
              obtain ⟨i2, r2⟩ := L'.res.rules
              rw [HQ7.out] at r1
              go_wp2
              refine bodyPost_ret (v := .agg (posA (start960N n))) (pos_result Try.results25 _ _ _ _ rfl (L'.res.setRow _)) rfl ⟨rfl, below_setRow L'.below (Nat.le_refl _) _⟩

end Go.Proofs.Ytpheapolijhgjaa
