/- The walk of awake of law 15. -/
import Derived.Test.YtkkabacdiefabaaDoorD8
import Derived.Test.YtkkabacdiefabaaDoorD5
namespace Go.Proofs.YtkkabacdiefabaaDoor
open Go Go.RowKit
set_option linter.unusedVariables false

set_option maxRecDepth 100000 in
set_option maxHeartbeats 8000000 in
theorem awakeD_any (w : World) (hT : Tab w) :
    Calls Tryd.prog 12 #[] w fun e w' => e = .returned (.bool true) ∧ Below w.heap.size w w' := by
  have hzp := zeroPos
  have HT := hideIt hT
  have k68 : Hid (startN 2 68 = startN 2 68) := rfl
  have HT2 : Hid (∀ W, Calls Tryd.prog 18 #[.agg (posA awN), .int .u8 0, .int .u8 5] W fun e w' => e = .returned (.tuple #[.agg (posA awN), .bool false]) ∧ Below W.heap.size W w') := fun W => by
    have := tak_any awN awOk 0 5 (by decide) (by decide) W
    rwa [aw_take, aw_takN] at this
  have HA2 : Hid (∀ W, Calls Tryd.prog 17 #[.agg (posA awN), .int .u8 0, .int .u8 5] W fun e w' => e = .returned (.agg (posA (addN awN 0 5))) ∧ Below W.heap.size W w') := fun W => add_any awN awOk 0 5 (by decide) (by decide) W
  have HH1 : Hid (∀ W, Calls Tryd.prog 13 #[.agg (posA awN), .int .u8 0] W fun e w' => e = .returned (.int .i64 2) ∧ Below W.heap.size W w') := fun W => by
    have := held15_0 awN awOk W
    rwa [aw_held.1] at this
  have HM1 : Hid (∀ W, Calls Tryd.prog 15 #[.agg (posA awN)] W fun e w' => e = .returned (.int .i64 34) ∧ Below W.heap.size W w') := fun W => by
    have := men_any awN awOk W
    rwa [aw_held.2] at this
  have HH2 : Hid (∀ W, Calls Tryd.prog 13 #[.agg (posA (addN awN 0 5)), .int .u8 0] W fun e w' => e = .returned (.int .i64 3) ∧ Below W.heap.size W w') := fun W => by
    have := held15_0 _ (add_ok awOk 0 5) W
    rwa [aw_add] at this
  have HL : Hid (∀ W, Tab W → Calls Tryd.prog 10 #[.agg (posA awN)] W fun e w' => ∃ v, e = .returned v ∧ OwnsM w' W.heap.size v (dropK awN 0 5) ∧ Below W.heap.size W w') := fun W hW => droplist_0 awN awOk aw0.1 aw0.2 W hW
  have HST : Hid (∀ W, Calls Tryd.prog 23 #[.int .u8 2] W fun e w' => e = .returned (.tuple #[.agg (posA (startN 2)), .bool true]) ∧ Below W.heap.size W w') := fun W => start_any 2 (by decide) W
  have HPO := hideIt awOk
  have HWN := hideIt (show upd (upd (startN 2) 68 1) 67 1 = awN from rfl)
  generalize hm : addN awN 0 5 = mN at HA2 HH2
  have HLEN := hideIt aw_len
  have HFI := hideIt aw_first
  have HLA := hideIt aw_last
  generalize dropK awN 0 5 = L at HL HLEN HFI HLA
  generalize awN = aN at HT2 HA2 HH1 HM1 HL HPO HWN
  generalize startN 2 = sN at HST HWN
  clear hT hm k68
  go_enter Tryd.func12, Tryd.ntmps12
  go_wp2_with fail
  refine (HST.out _).mono ?_
  rintro e Y ⟨rfl, hb⟩
  obtain ⟨V, hV⟩ : ∃ V, (Y.alloc (.cells (posA zeroN) 31)).setRow Y.heap.size (posA sN) = V := ⟨_, rfl⟩
  have hV2 : Y.alloc (.cells (posA sN) 31) = V := by rw [← hV, World.setRow_alloc_new]
  have p0 : PosAt V Y.heap.size sN := by rw [← hV2]; exact PosAt.new Y _
  have hbV : Below w.heap.size w V := by rw [← hV2]; exact hb.alloc hb.size _
  obtain ⟨g, hg⟩ : ∃ g, Y.heap.size = g := ⟨_, rfl⟩
  have hgle : w.heap.size ≤ g := by rw [← hg]; exact hb.size
  rw [hg] at p0
  obtain ⟨U, hU⟩ : ∃ U, (V.setCell ⟨g, 68, none⟩ (.int .u8 1)).setCell ⟨g, 67, none⟩ (.int .u8 1) = U := ⟨_, rfl⟩
  have pU : PosAt U g aN := by rw [← hU, ← HWN.out]; exact (p0.set 68 1).set 67 1
  have hbU : Below w.heap.size w U := by
    rw [← hU]
    exact Below.setCell (p := ⟨g, 67, none⟩) (Below.setCell (p := ⟨g, 68, none⟩) hbV hgle _) hgle _
  have c68 : V.cell? ⟨g, 68, none⟩ = some (.int .u8 (sN 68)) := p0.cell 68 (by decide)
  have c67 : V.cell? ⟨g, 67, none⟩ = some (.int .u8 (sN 67)) := p0.cell 67 (by decide)
  have f68 := p0.free 68
  have f67 := p0.free 67
  have HV := hideIt hV
  have HG := hideIt hg
  have HU := hideIt hU
  obtain ⟨i1, r1⟩ := pU.rules
  have hTU := HT.out.below hbU (Nat.le_refl _)
  clear hV hV2 hg hU hb hbV p0
  go_wp2_with (first | rw [HV.out, HG.out] | rw [HU.out])
  refine (HL.out _ hTU).mono ?_
  rintro e Z ⟨vl, rfl, hown, h1⟩
  have pZ := pU.below h1 pU.lt
  have hbZ := hbU.trans (h1.mono hbU.size)
  clear h1 i1 r1 c68 c67 f68 f67 HV HG HU hTU pU hbU HST HL
  rcases hown.form with ⟨hl, _⟩ | ⟨gl, cl, rfl, _, hsl, _, hcell⟩
  · have := HLEN.out
    rw [hl] at this; cases this
  have h0l : 0 < L.length := by rw [HLEN.out]; decide
  have h63l : 63 < L.length := by rw [HLEN.out]; decide
  have e0 : L[0] = dmv 16 1 := by have := HFI.out; rw [List.getElem?_eq_getElem h0l] at this; injection this
  have e63 : L[63] = dmv 47 2 := by have := HLA.out; rw [List.getElem?_eq_getElem h63l] at this; injection this
  obtain ⟨a0, a1, a2, a3, a4⟩ := hcell 0 h0l
  obtain ⟨b0, b1, b2, b3, b4⟩ := hcell 63 h63l
  rw [e0] at a0 a1 a2 a3 a4
  rw [e63] at b0 b1 b2 b3 b4
  rw [HLEN.out]
  clear hown hcell e0 e63 h0l h63l
  obtain ⟨i1, r1⟩ := pZ.rules
  go_wp2_with fail
  refine (HT2.out _).mono ?_
  rintro e Z2 ⟨rfl, h1⟩
  have pZ2 := pZ.below h1 pZ.lt
  have hbZ2 := hbZ.trans (h1.mono hbZ.size)
  have HB1 := hideIt h1
  clear h1 i1 r1
  obtain ⟨V2, hV⟩ : ∃ V, (Z2.alloc (.cells (posA zeroN) 31)).setRow Z2.heap.size (posA aN) = V := ⟨_, rfl⟩
  have hV2 : Z2.alloc (.cells (posA aN) 31) = V2 := by rw [← hV, World.setRow_alloc_new]
  have pp : PosAt V2 g aN := by rw [← hV2]; exact pZ2.alloc _
  have pq : PosAt V2 Z2.heap.size aN := by rw [← hV2]; exact PosAt.new Z2 _
  have hbV : Below w.heap.size w V2 := by rw [← hV2]; exact hbZ2.alloc hbZ2.size _
  have hbL : Below Z.heap.size Z V2 := by rw [← hV2]; exact HB1.out.alloc HB1.out.size _
  obtain ⟨q, hq⟩ : ∃ g, Z2.heap.size = g := ⟨_, rfl⟩
  rw [hq] at pq
  have HV := hideIt hV
  have HG := hideIt hq
  have HA := hideIt (fun i (v : Value) (h : Z.cell? ⟨gl, i, none⟩ = some v) => (hbL.cell (p := ⟨gl, i, none⟩) hsl).trans h)
  have x0 := HA.out _ _ a0
  have x1 := HA.out _ _ a1
  have x2 := HA.out _ _ a2
  have x3 := HA.out _ _ a3
  have x4 := HA.out _ _ a4
  have y0 := HA.out _ _ b0
  have y1 := HA.out _ _ b1
  have y2 := HA.out _ _ b2
  have y3 := HA.out _ _ b3
  have y4 := HA.out _ _ b4
  have bl1 : ∀ w, (Instr.build 45 #[(0, .int .i8 16), (1, .int .i8 16), (3, .int .u8 1)]).run Tryd.prog w = .ok (.agg #[.int .i8 16, .int .i8 16, .int .u8 0, .int .u8 1, .bool false]) w := fun _ => by kernel_rfl
  have bl2 : ∀ w, (Instr.build 45 #[(0, .int .i8 47), (1, .int .i8 47), (3, .int .u8 2)]).run Tryd.prog w = .ok (.agg #[.int .i8 47, .int .i8 47, .int .u8 0, .int .u8 2, .bool false]) w := fun _ => by kernel_rfl
  have eq1 : ∀ w, (binOp .eql 45 (.agg #[.int .i8 16, .int .i8 16, .int .u8 0, .int .u8 1, .bool false]) (.agg #[.int .i8 16, .int .i8 16, .int .u8 0, .int .u8 1, .bool false])).run Tryd.prog w = .ok (.bool true) w := fun w => eql_mv (dmv 16 1) (dmv 16 1) ⟨by decide, by decide, by decide, by decide⟩ ⟨by decide, by decide, by decide, by decide⟩ w
  have eq2 : ∀ w, (binOp .eql 45 (.agg #[.int .i8 47, .int .i8 47, .int .u8 0, .int .u8 2, .bool false]) (.agg #[.int .i8 47, .int .i8 47, .int .u8 0, .int .u8 2, .bool false])).run Tryd.prog w = .ok (.bool true) w := fun w => eql_mv (dmv 47 2) (dmv 47 2) ⟨by decide, by decide, by decide, by decide⟩ ⟨by decide, by decide, by decide, by decide⟩ w
  have EP := eqP_self aN
  have hpo := HPO.out
  obtain ⟨i1, r1⟩ := pp.rules
  clear hV hV2 hq a0 a1 a2 a3 a4 b0 b1 b2 b3 b4 HA hbL pZ pZ2 hbZ hbZ2 HB1
  go_wp2_with (rw [HV.out, HG.out])
  refine (HH1.out _).mono ?_
  rintro e w1 ⟨rfl, h1⟩
  have pp1 := pp.below h1 pp.lt
  have pq1 := pq.below h1 pq.lt
  have hb1 := hbV.trans (h1.mono hbV.size)
  clear h1 i1 r1 pp pq hbV HV HG x0 x1 x2 x3 x4 y0 y1 y2 y3 y4 bl1 bl2 eq1 eq2
  obtain ⟨i1, r1⟩ := pp1.rules
  go_wp2_with fail
  refine (HM1.out _).mono ?_
  rintro e w2 ⟨rfl, h1⟩
  have pp2 := pp1.below h1 pp1.lt
  have pq2 := pq1.below h1 pq1.lt
  have hb2 := hb1.trans (h1.mono hb1.size)
  clear h1 i1 r1 pp1 pq1 hb1
  obtain ⟨i1, r1⟩ := pp2.rules
  obtain ⟨i2, r2⟩ := pq2.rules
  go_wp2_with fail
  refine (HA2.out _).mono ?_
  rintro e w3 ⟨rfl, h1⟩
  have hb3 := hb2.trans (h1.mono hb2.size)
  clear h1 i1 r1 i2 r2 pp2 pq2 hb2
  go_wp2_with fail
  refine (HH2.out _).mono ?_
  rintro e w4 ⟨rfl, h1⟩
  have hb4 := hb3.trans (h1.mono hb3.size)
  clear h1 hb3
  go_wp2
  go_ret
  exact ⟨rfl, hb4⟩

end Go.Proofs.YtkkabacdiefabaaDoor
