/- The walk of awake of law 24. -/
import Derived.Test.YtccdelpiflcipaaDoorEF
namespace Go.Proofs.YtccdelpiflcipaaDoor
open Go Go.RowKit
set_option linter.unusedVariables false

set_option maxRecDepth 100000 in
set_option maxHeartbeats 8000000 in
theorem awakeE_any (w : World) (hT : Tab w) :
    Calls Tryd.prog 17 #[] w fun e w' => e = .returned (.bool true) ∧ Below w.heap.size w w' := by
  have hzp := zeroPos
  have HT := hideIt hT
  clear hT
  go_enter Tryd.func17, Tryd.ntmps17
  go_wp2
  go_loopw [1] (fun i wr => ∃ k : Nat, k ≤ 9 ∧ i = .int .u8 k ∧ Below w.heap.size w wr) (fun i _ => 9 - (intOf i).toNat)
  case atStart => exact ⟨0, by omega, rfl, Below.refl _ _⟩
  case round =>
    obtain ⟨k, hk, rfl, hr⟩ := hrel
    by_cases hlt : k < 9
    · have D := hideIt (decide_eq_true hlt)
      obtain ⟨z0, z1⟩ := start24z ⟨k, hlt⟩
      have H0 := hideIt z0
      have H1 := hideIt z1
      have HOK := hideIt (start24 k hlt)
      have HE := hideIt (start24of ⟨k, hlt⟩)
      simp only at H0 H1 HE
      clear z0 z1
      go_wp2_with fail
      refine (start_any k (by omega) _).mono ?_
      rw [D.out]
      rintro e Y ⟨rfl, h1⟩
      have hb := hr.trans (h1.mono hr.size)
      clear h1 hr
      obtain ⟨m, hm⟩ : ∃ m, startN k = m := ⟨_, rfl⟩
      rw [hm] at H0 H1 HOK HE ⊢
      clear hm
      obtain ⟨V, hV⟩ : ∃ V, (Y.alloc (.cells (posA zeroN) 31)).setRow Y.heap.size (posA m) = V := ⟨_, rfl⟩
      have hV2 : Y.alloc (.cells (posA m) 31) = V := by rw [← hV, World.setRow_alloc_new]
      have p0 : PosAt V Y.heap.size m := by rw [← hV2]; exact PosAt.new Y _
      have hb : Below w.heap.size w V := by rw [← hV2]; exact hb.alloc hb.size _
      obtain ⟨g, hg⟩ : ∃ g, Y.heap.size = g := ⟨_, rfl⟩
      rw [hg] at p0
      have HV := hideIt hV
      have HG := hideIt hg
      obtain ⟨i0, r0⟩ := p0.rules
      clear hV hV2 hg
      by_cases h7 : k = 7
      · have d7 : ((k : Int) != 7) = false := by rw [bne, beq_iff_eq.2 (by omega)]; rfl
        clear h7
        go_wp2_with (rw [HV.out, HG.out])
        go_roundw
        case rel => exact ⟨k + 1, by omega, by go_num, hb⟩
        case measure => simp [intOf]; omega
      · have d7 : ((k : Int) != 7) = true := by rw [bne, beq_eq_false_iff_ne.2 (by omega)]; rfl
        have HE := hideIt (HE.out h7)
        have HTV := hideIt (HT.out.below hb (Nat.le_refl _))
        clear h7
        go_wp2_with (rw [HV.out, HG.out])
        refine (pof_any m HOK.out k 0 H0.out H1.out (by omega) (by omega) _ HTV.out).mono ?_
        rw [HE.out]
        rintro e w3 ⟨rfl, h1⟩
        have hb := hb.trans (h1.mono hb.size)
        clear h1 i0 r0 p0
        go_wp2
        go_roundw
        case rel => exact ⟨k + 1, by omega, by go_num, hb⟩
        case measure => simp [intOf]; omega
    · obtain rfl : k = 9 := by omega
      obtain ⟨X, hX⟩ : ∃ X, ((wr.alloc (.cells (posA zeroN) 31)).alloc (.cells (posA zeroN) 31)).alloc (.cells (posA zeroN) 31) = X := ⟨_, rfl⟩
      have pp : PosAt X wr.heap.size zeroN := by rw [← hX]; exact ((PosAt.new wr _).alloc _).alloc _
      have pq : PosAt X (wr.heap.size + 1) zeroN := by rw [← hX]; exact (PosAt.new1 wr _ _).alloc _
      have pb : PosAt X (wr.heap.size + 2) zeroN := by
        rw [← hX]
        have := PosAt.new ((wr.alloc (.cells (posA zeroN) 31)).alloc (.cells (posA zeroN) 31)) zeroN
        simpa using this
      have hr0 : w.heap.size ≤ wr.heap.size := hr.size
      have hbX : Below w.heap.size w X := by
        rw [← hX]
        exact ((hr.alloc hr.size _).alloc (by simp; omega) _).alloc (by simp; omega) _
      have hsX : X.heap.size = wr.heap.size + 3 := by rw [← hX]; simp
      obtain ⟨Y, hY⟩ : ∃ Y, (X.setCell ⟨wr.heap.size, 29, none⟩ (.int .u8 1)).setCell ⟨wr.heap.size + 1, 1, none⟩ (.int .u8 2) = Y := ⟨_, rfl⟩
      have pp1 : PosAt Y wr.heap.size epN := by rw [← hY]; exact (pp.setB 29 (by decide) 1).other (by omega) _
      have pq1 : PosAt Y (wr.heap.size + 1) eqN := by rw [← hY]; exact (pq.other (by omega) _).setB 1 (by decide) 2
      have pb1 : PosAt Y (wr.heap.size + 2) zeroN := by rw [← hY]; exact (pb.other (by omega) _).other (by omega) _
      have hbY : Below w.heap.size w Y := by rw [← hY]; refine Below.setCell (Below.setCell hbX ?_ _) ?_ _ <;> ((try dsimp only); omega)
      have hsY : Y.heap.size = wr.heap.size + 3 := by rw [← hY]; simp [hsX]
      obtain ⟨Z, hZ⟩ : ∃ Z, ((Y.setCell ⟨wr.heap.size + 2, 29, none⟩ (.int .u8 1)).setCell ⟨wr.heap.size + 2, 1, none⟩ (.int .u8 2)).setCell ⟨wr.heap.size + 2, 78, none⟩ (.int .u8 1) = Z := ⟨_, rfl⟩
      have pp2 : PosAt Z wr.heap.size epN := by rw [← hZ]; exact ((pp1.other (by omega) _).other (by omega) _).other (by omega) _
      have pq2 : PosAt Z (wr.heap.size + 1) eqN := by rw [← hZ]; exact ((pq1.other (by omega) _).other (by omega) _).other (by omega) _
      have pb2 : PosAt Z (wr.heap.size + 2) ebN := by rw [← hZ]; exact ((pb1.setB 29 (by decide) 1).setB 1 (by decide) 2).set 78 1
      have hbZ : Below w.heap.size w Z := by rw [← hZ]; refine Below.setCell (Below.setCell (Below.setCell hbY ?_ _) ?_ _) ?_ _ <;> ((try dsimp only); omega)
      have hsZ : Z.heap.size = wr.heap.size + 3 := by rw [← hZ]; simp [hsY]
      obtain ⟨U, hU⟩ : ∃ U, (Z.alloc (.cells (posA zeroN) 31)).setRow Z.heap.size (posA ebN) = U := ⟨_, rfl⟩
      have hU2 : Z.alloc (.cells (posA ebN) 31) = U := by rw [← hU, World.setRow_alloc_new]
      have pp3 : PosAt U wr.heap.size epN := by rw [← hU2]; exact pp2.alloc _
      have pq3 : PosAt U (wr.heap.size + 1) eqN := by rw [← hU2]; exact pq2.alloc _
      have pb3 : PosAt U (wr.heap.size + 2) ebN := by rw [← hU2]; exact pb2.alloc _
      have pa3 : PosAt U (wr.heap.size + 3) ebN := by rw [← hU2, ← hsZ]; exact PosAt.new Z _
      have hbU : Below w.heap.size w U := by rw [← hU2]; exact hbZ.alloc (by omega) _
      obtain ⟨S, hS⟩ : ∃ S, U.setCell ⟨wr.heap.size + 3, 0, none⟩ (.int .u8 4) = S := ⟨_, rfl⟩
      have pp4 : PosAt S wr.heap.size epN := by rw [← hS]; exact pp3.other (by omega) _
      have pq4 : PosAt S (wr.heap.size + 1) eqN := by rw [← hS]; exact pq3.other (by omega) _
      have pb4 : PosAt S (wr.heap.size + 2) ebN := by rw [← hS]; exact pb3.other (by omega) _
      have pa4 : PosAt S (wr.heap.size + 3) eaN := by rw [← hS]; exact pa3.setB 0 (by decide) 4
      have hbS : Below w.heap.size w S := by rw [← hS]; refine Below.setCell hbU ?_ _ <;> ((try dsimp only); omega)
      have HX := hideIt hX
      have HY := hideIt hY
      have HZ := hideIt hZ
      have HU := hideIt hU
      have HS := hideIt hS
      have HsZ := hideIt hsZ
      have c1 := pp.board 29 (by decide)
      have c2 := pq.board 1 (by decide)
      have f1 := pp.free 29
      have f2 := pq.free 1
      have c3 := pb1.board 29 (by decide)
      have c4 := pb1.board 1 (by decide)
      have c5 : Y.cell? ⟨wr.heap.size + 2, 78, none⟩ = some (.int .u8 (zeroN 78)) := pb1.cell 78 (by decide)
      have f3 := pb1.free 29
      have f4 := pb1.free 1
      have f5 := pb1.free 78
      have c6 := pa3.board 0 (by decide)
      have f6 := pa3.free 0
      obtain ⟨i2, r2⟩ := pb2.rules
      obtain ⟨i4, r4⟩ := pp4.rules
      obtain ⟨i5, r5⟩ := pq4.rules
      obtain ⟨i6, r6⟩ := pb4.rules
      obtain ⟨i7, r7⟩ := pa4.rules
      clear hX hY hZ hU hS hU2 hsX hsY hsZ hr0 hr hlt hk pp pq pb pp1 pq1 pb1 pp2 pq2 pb2 pp3 pq3 pb3 pa3 hbX hbY hbZ hbU
      go_wp2_with (first | rw [HX.out] | rw [HY.out] | rw [HZ.out] | rw [HU.out, HsZ.out] | rw [HS.out])
      refine (square_any 0 _).mono ?_
      rw [sq24.1]
      rintro e w0 ⟨rfl, rfl⟩
      go_wp2_with fail
      refine (square_any 27 _).mono ?_
      rw [sq24.2.1]
      rintro e w27 ⟨rfl, rfl⟩
      go_wp2_with fail
      refine (square_any 18 _).mono ?_
      rw [sq24.2.2.1]
      rintro e w18 ⟨rfl, rfl⟩
      go_wp2_with fail
      refine (square_any 39 _).mono ?_
      rw [sq24.2.2.2.1]
      rintro e w39 ⟨rfl, rfl⟩
      go_wp2_with fail
      refine (square_any 64 _).mono ?_
      rw [sq24.2.2.2.2]
      rintro e w64 ⟨rfl, rfl⟩
      go_wp2_with fail
      have hTS := HT.out.below hbS (Nat.le_refl _)
      refine (side_any epN epOk 0 0 rfl (by decide) (by decide) _ hTS).mono ?_
      rw [e24facts.1]
      rintro e w1 ⟨rfl, h1⟩
      clear i4 r4 i5 r5 i6 r6 i7 r7
      have pq4 := pq4.below h1 pq4.lt
      have pb4 := pb4.below h1 pb4.lt
      have pa4 := pa4.below h1 pa4.lt
      have hb1 := hbS.trans (h1.mono hbS.size)
      have hT1 := HT.out.below hb1 (Nat.le_refl _)
      clear h1 hTS
      obtain ⟨i5, r5⟩ := pq4.rules
      go_wp2_with fail
      refine (side_any eqN eqOk 0 0 rfl (by decide) (by decide) _ hT1).mono ?_
      rw [e24facts.2.1]
      rintro e w2 ⟨rfl, h1⟩
      clear i5 r5
      have pb4 := pb4.below h1 pb4.lt
      have pa4 := pa4.below h1 pa4.lt
      have hb2 := hb1.trans (h1.mono hb1.size)
      have hT2 := HT.out.below hb2 (Nat.le_refl _)
      clear h1 hT1
      obtain ⟨i6, r6⟩ := pb4.rules
      go_wp2_with fail
      refine (pof_any ebN ebOk 0 1 rfl rfl (by decide) (by decide) _ hT2).mono ?_
      rw [e24facts.2.2.1]
      rintro e w3 ⟨rfl, h1⟩
      clear i6 r6
      have pa4 := pa4.below h1 pa4.lt
      have hb3 := hb2.trans (h1.mono hb2.size)
      have hT3 := HT.out.below hb3 (Nat.le_refl _)
      clear h1 hT2
      obtain ⟨i7, r7⟩ := pa4.rules
      go_wp2_with fail
      refine (pof_any eaN eaOk 4 1 rfl rfl (by decide) (by decide) _ hT3).mono ?_
      rw [e24facts.2.2.2]
      rintro e w4 ⟨rfl, h1⟩
      have hb4 := hb3.trans (h1.mono hb3.size)
      clear h1 hT3 i7 r7
      go_wp2
      go_ret
      exact ⟨rfl, hb4⟩

end Go.Proofs.YtccdelpiflcipaaDoor
