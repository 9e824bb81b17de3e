/- The walk of awake of law 6. -/
import Derived.Test.YtlobmhhilkmfdaaDoorPF
import Derived.Test.YtlobmhhilkmfdaaDoorPN
namespace Go.Proofs.YtlobmhhilkmfdaaDoor
open Go Go.RowKit

def aN : Nat → Int := upd (upd (upd zeroN 5 6) 52 9) 1 7
theorem aOk : PosOk aN := by
  have h : ∀ i : Fin 88, (Lit.int (kindAt i.val) (aN i.val)).wf = true := by decide +kernel
  exact fun i hi => h ⟨i, hi⟩
def bN : Nat → Int := mirN aN
theorem bOk : PosOk bN := aOk.mir

set_option maxRecDepth 100000 in
set_option maxHeartbeats 8000000 in
theorem awake_any (w : World) (hT : Tab w) :
    Calls Tryd.prog 19 #[] w fun e w' => e = .returned (.bool true) ∧ Below w.heap.size w w' := by
  obtain ⟨X, hX⟩ : ∃ X, w.alloc (.cells (posA zeroN) 31) = X := ⟨_, rfl⟩
  obtain ⟨p0, hb⟩ := box1 w zeroN X hX
  obtain ⟨Y, hY⟩ : ∃ Y, ((X.setCell ⟨w.heap.size, 5, none⟩ (.int .u8 6)).setCell ⟨w.heap.size, 52, none⟩ (.int .u8 9)).setCell ⟨w.heap.size, 1, none⟩ (.int .u8 7) = Y := ⟨_, rfl⟩
  have pa : PosAt Y w.heap.size aN := by rw [← hY]; exact ((p0.setB 5 (by decide) 6).setB 52 (by decide) 9).setB 1 (by decide) 7
  have hbY : Below w.heap.size w Y := by rw [← hY]; exact ((hb.setCell (Nat.le_refl _) _).setCell (Nat.le_refl _) _).setCell (Nat.le_refl _) _
  have c5 := p0.board 5 (by decide)
  have c52 := p0.board 52 (by decide)
  have c1 := p0.board 1 (by decide)
  have f5 := p0.free 5
  have f52 := p0.free 52
  have f1 := p0.free 1
  have HX := hideIt hX
  have HY := hideIt hY
  obtain ⟨ia, ra⟩ := pa.rules
  have hzp := zeroPos
  clear hX hY p0 hb
  have hb := hbY
  clear hbY
  go_enter Tryd.func19, Tryd.ntmps19
  go_wp2_with (first | rw [HX.out] | rw [HY.out])
  refine (mirror_any aN aOk _).mono ?_
  rintro e Z ⟨rfl, h1⟩
  have pz := pa.below h1 pa.lt
  have hb := hb.trans (h1.mono hb.size)
  obtain ⟨V, hV⟩ : ∃ V, (Z.alloc (.cells (posA zeroN) 31)).setRow Z.heap.size (posA bN) = V := ⟨_, rfl⟩
  have hV2 : Z.alloc (.cells (posA bN) 31) = V := by rw [← hV, World.setRow_alloc_new]
  have pa2 : PosAt V w.heap.size aN := by rw [← hV2]; exact pz.alloc _
  have pm : PosAt V Z.heap.size bN := by rw [← hV2]; exact PosAt.new Z bN
  have hb : Below w.heap.size w V := by rw [← hV2]; exact hb.alloc hb.size _
  have hT := hT.below hb (Nat.le_refl _)
  rw [show mirN aN = bN from rfl]
  obtain ⟨g, hg⟩ : ∃ g, Z.heap.size = g := ⟨_, rfl⟩
  rw [hg] at pm
  have HV := hideIt hV
  have HG := hideIt hg
  clear hg
  clear hV hV2 h1 ia ra pz pa c5 c52 c1 f5 f52 f1 HX HY
  have pa := pa2
  clear pa2
  obtain ⟨ia, ra⟩ := pa.rules
  obtain ⟨im, rm⟩ := pm.rules
  go_wp2_with (first | rw [HV.out, HG.out])
  go_simp
  go_wp2_with fail
  refine (at_any aN aOk 4 _).mono ?_
  rintro e w1 ⟨rfl, h1⟩
  clear ia ra im rm
  have pa := pa.below h1 pa.lt
  have pm := pm.below h1 pm.lt
  have hb := hb.trans (h1.mono hb.size)
  have hT := hT.below h1 (Nat.le_refl _)
  clear h1
  obtain ⟨ia, ra⟩ := pa.rules
  obtain ⟨im, rm⟩ := pm.rules
  rw [show atN aN 4 = 6 by decide +kernel]
  go_wp2_with fail
  refine (at_any aN aOk 51 _).mono ?_
  rintro e w2 ⟨rfl, h1⟩
  clear ia ra im rm
  have pa := pa.below h1 pa.lt
  have pm := pm.below h1 pm.lt
  have hb := hb.trans (h1.mono hb.size)
  have hT := hT.below h1 (Nat.le_refl _)
  clear h1
  obtain ⟨ia, ra⟩ := pa.rules
  obtain ⟨im, rm⟩ := pm.rules
  rw [show atN aN 51 = 9 by decide +kernel]
  go_wp2_with fail
  refine (at_any aN aOk 0 _).mono ?_
  rintro e w3 ⟨rfl, h1⟩
  clear ia ra im rm
  have pa := pa.below h1 pa.lt
  have pm := pm.below h1 pm.lt
  have hb := hb.trans (h1.mono hb.size)
  have hT := hT.below h1 (Nat.le_refl _)
  clear h1
  obtain ⟨ia, ra⟩ := pa.rules
  obtain ⟨im, rm⟩ := pm.rules
  rw [show atN aN 0 = 0 by decide +kernel]
  go_wp2_with fail
  refine (at_any aN aOk 64 _).mono ?_
  rintro e w4 ⟨rfl, h1⟩
  clear ia ra im rm
  have pa := pa.below h1 pa.lt
  have pm := pm.below h1 pm.lt
  have hb := hb.trans (h1.mono hb.size)
  have hT := hT.below h1 (Nat.le_refl _)
  clear h1
  obtain ⟨ia, ra⟩ := pa.rules
  obtain ⟨im, rm⟩ := pm.rules
  rw [show atN aN 64 = 0 by decide +kernel]
  go_wp2_with fail
  refine (of_any aN aOk 0 6 _).mono ?_
  rintro e w5 ⟨rfl, h1⟩
  clear ia ra im rm
  have pa := pa.below h1 pa.lt
  have pm := pm.below h1 pm.lt
  have hb := hb.trans (h1.mono hb.size)
  have hT := hT.below h1 (Nat.le_refl _)
  clear h1
  obtain ⟨ia, ra⟩ := pa.rules
  obtain ⟨im, rm⟩ := pm.rules
  rw [show ofN aN 0 6 = putB 0#64 4 by decide +kernel]
  go_wp2_with fail
  refine (put_any 0#64 rfl 4 _).mono ?_
  rintro e w6 ⟨rfl, rfl⟩
  go_wp2_with fail
  refine (of_any aN aOk 1 0 _).mono ?_
  rintro e w7 ⟨rfl, h1⟩
  clear ia ra im rm
  have pa := pa.below h1 pa.lt
  have pm := pm.below h1 pm.lt
  have hb := hb.trans (h1.mono hb.size)
  have hT := hT.below h1 (Nat.le_refl _)
  clear h1
  obtain ⟨ia, ra⟩ := pa.rules
  obtain ⟨im, rm⟩ := pm.rules
  rw [show ofN aN 1 0 = putB 0#64 51 by decide +kernel]
  go_wp2_with fail
  refine (put_any 0#64 rfl 51 _).mono ?_
  rintro e w8 ⟨rfl, rfl⟩
  go_wp2_with fail
  refine (of_any aN aOk 2 0 _).mono ?_
  rintro e w9 ⟨rfl, h1⟩
  clear ia ra im rm
  have pa := pa.below h1 pa.lt
  have pm := pm.below h1 pm.lt
  have hb := hb.trans (h1.mono hb.size)
  have hT := hT.below h1 (Nat.le_refl _)
  clear h1
  obtain ⟨ia, ra⟩ := pa.rules
  obtain ⟨im, rm⟩ := pm.rules
  rw [show ofN aN 2 0 = 0#64 by decide +kernel]
  rw [u_zero]
  go_wp2_with fail
  refine (ball_any aN aOk _).mono ?_
  rintro e w10 ⟨rfl, h1⟩
  clear ia ra im rm
  have pa := pa.below h1 pa.lt
  have pm := pm.below h1 pm.lt
  have hb := hb.trans (h1.mono hb.size)
  have hT := hT.below h1 (Nat.le_refl _)
  clear h1
  obtain ⟨ia, ra⟩ := pa.rules
  obtain ⟨im, rm⟩ := pm.rules
  rw [show allN aN = putB (putB 0#64 4) 51 by decide +kernel]
  go_wp2_with fail
  refine (put_any 0#64 rfl 4 _).mono ?_
  rintro e w11 ⟨rfl, rfl⟩
  go_wp2_with fail
  refine (put_any (putB 0#64 4) rfl 51 _).mono ?_
  rintro e w12 ⟨rfl, rfl⟩
  go_wp2_with fail
  refine (bfind_any aN aOk 1 1 _ hT).mono ?_
  rintro e w13 ⟨rfl, h1⟩
  clear ia ra im rm
  have pa := pa.below h1 pa.lt
  have pm := pm.below h1 pm.lt
  have hb := hb.trans (h1.mono hb.size)
  have hT := hT.below h1 (Nat.le_refl _)
  clear h1
  obtain ⟨ia, ra⟩ := pa.rules
  obtain ⟨im, rm⟩ := pm.rules
  rw [show firstB (ofN aN 1 1) = 51 by decide +kernel]
  go_wp2_with fail
  refine (bfind_any aN aOk 1 5 _ hT).mono ?_
  rintro e w14 ⟨rfl, h1⟩
  clear ia ra im rm
  have pa := pa.below h1 pa.lt
  have pm := pm.below h1 pm.lt
  have hb := hb.trans (h1.mono hb.size)
  have hT := hT.below h1 (Nat.le_refl _)
  clear h1
  obtain ⟨ia, ra⟩ := pa.rules
  obtain ⟨im, rm⟩ := pm.rules
  rw [show firstB (ofN aN 1 5) = -1 by decide +kernel]
  go_wp2_with fail
  refine (bcount_any aN aOk 0 0 _).mono ?_
  rintro e w15 ⟨rfl, h1⟩
  clear ia ra im rm
  have pa := pa.below h1 pa.lt
  have pm := pm.below h1 pm.lt
  have hb := hb.trans (h1.mono hb.size)
  have hT := hT.below h1 (Nat.le_refl _)
  clear h1
  obtain ⟨ia, ra⟩ := pa.rules
  obtain ⟨im, rm⟩ := pm.rules
  rw [show cntB (ofN aN 0 0) = 1 by decide +kernel]
  go_wp2_with fail
  refine (bput_any aN 51 5 (by decide) (by decide) _).mono ?_
  rintro e w16 ⟨rfl, h1⟩
  clear ia ra im rm
  have pa := pa.below h1 pa.lt
  have pm := pm.below h1 pm.lt
  have hb := hb.trans (h1.mono hb.size)
  have hT := hT.below h1 (Nat.le_refl _)
  clear h1
  obtain ⟨ia, ra⟩ := pa.rules
  obtain ⟨im, rm⟩ := pm.rules
  go_wp2_with fail
  refine (at_any (putN aN 51 5) (aOk.put 51 5 (by decide) (by decide)) 51 _).mono ?_
  rintro e w17 ⟨rfl, h1⟩
  clear ia ra im rm
  have pa := pa.below h1 pa.lt
  have pm := pm.below h1 pm.lt
  have hb := hb.trans (h1.mono hb.size)
  have hT := hT.below h1 (Nat.le_refl _)
  clear h1
  obtain ⟨ia, ra⟩ := pa.rules
  obtain ⟨im, rm⟩ := pm.rules
  rw [show atN (putN aN 51 5) 51 = 5 by decide +kernel]
  go_wp2_with fail
  refine (bput_any aN 4 7 (by decide) (by decide) _).mono ?_
  rintro e w18 ⟨rfl, h1⟩
  clear ia ra im rm
  have pa := pa.below h1 pa.lt
  have pm := pm.below h1 pm.lt
  have hb := hb.trans (h1.mono hb.size)
  have hT := hT.below h1 (Nat.le_refl _)
  clear h1
  obtain ⟨ia, ra⟩ := pa.rules
  obtain ⟨im, rm⟩ := pm.rules
  go_wp2_with fail
  refine (at_any (putN aN 4 7) (aOk.put 4 7 (by decide) (by decide)) 4 _).mono ?_
  rintro e w19 ⟨rfl, h1⟩
  clear ia ra im rm
  have pa := pa.below h1 pa.lt
  have pm := pm.below h1 pm.lt
  have hb := hb.trans (h1.mono hb.size)
  have hT := hT.below h1 (Nat.le_refl _)
  clear h1
  obtain ⟨ia, ra⟩ := pa.rules
  obtain ⟨im, rm⟩ := pm.rules
  rw [show atN (putN aN 4 7) 4 = 6 by decide +kernel]
  go_wp2_with fail
  refine (at_any bN bOk 60 _).mono ?_
  rintro e w20 ⟨rfl, h1⟩
  clear ia ra im rm
  have pa := pa.below h1 pa.lt
  have pm := pm.below h1 pm.lt
  have hb := hb.trans (h1.mono hb.size)
  have hT := hT.below h1 (Nat.le_refl _)
  clear h1
  obtain ⟨ia, ra⟩ := pa.rules
  obtain ⟨im, rm⟩ := pm.rules
  rw [show atN bN 60 = 14 by decide +kernel]
  go_wp2_with fail
  refine (at_any bN bOk 11 _).mono ?_
  rintro e w21 ⟨rfl, h1⟩
  clear ia ra im rm
  have pa := pa.below h1 pa.lt
  have pm := pm.below h1 pm.lt
  have hb := hb.trans (h1.mono hb.size)
  have hT := hT.below h1 (Nat.le_refl _)
  clear h1
  obtain ⟨ia, ra⟩ := pa.rules
  obtain ⟨im, rm⟩ := pm.rules
  rw [show atN bN 11 = 1 by decide +kernel]
  go_wp2
  go_ret
  exact ⟨rfl, hb⟩

end Go.Proofs.YtlobmhhilkmfdaaDoor
