/- The walk of DropPockets (written by gen_dpock.py). -/
import Derived.Test.YtkkabacdiefabaaDoorAwD
import Derived.RegionTactic
import Derived.ChangeAlike
import Derived.BigRegion
import Derived.Deep.DeepCutAuto
namespace Go.Proofs.YtkkabacdiefabaaDoor
open Go Go.RowKit
set_option linter.unusedVariables false

/-- Five positions in a world. -/
structure Five (w0 : World) (g1 g2 g3 g4 : Nat) (n a b m l : Nat → Int) (W : World) : Prop where
  own : PosAt W w0.heap.size n
  pa : PosAt W g1 a
  pb : PosAt W g2 b
  pm : PosAt W g3 m
  pl : PosAt W g4 l
  below : Below w0.heap.size w0 W
theorem Five.swap {w0 W : World} {g1 g2 g3 g4 : Nat} {n a b m : Nat → Int} (h : Five w0 g1 g2 g3 g4 n a b m m W) : Five w0 g1 g2 g4 g3 n a b m m W := ⟨h.own, h.pa, h.pb, h.pl, h.pm, h.below⟩
theorem setRow_sizeP (w : World) (b : Nat) (c : Array Value) : (w.setRow b c).heap.size = w.heap.size := by simp [World.setRow]
theorem isPos_drew (w : World) (g : Nat) : IsPos w.drew g = IsPos w g := rfl
theorem rowOf_drew (w : World) (g : Nat) : rowOf w.drew g = rowOf w g := rfl
theorem IsPos.rowP {w w' : World} {g : Nat} (h : w'.heap[g]? = w.heap[g]?) : IsPos w' g = IsPos w g := by
  unfold IsPos PosAt; rw [h]
theorem rowOfP {w w' : World} {g : Nat} (h : w'.heap[g]? = w.heap[g]?) : rowOf w' g = rowOf w g := by
  have hc : ∀ i, w'.cell? ⟨g, i, none⟩ = w.cell? ⟨g, i, none⟩ := fun i => by unfold World.cell?; simp only [h]
  unfold rowOf posOf
  simp only [hc]
theorem isPos_allocO (w : World) (o : Obj) (g : Nat) (h : g < w.heap.size) : IsPos (w.alloc o) g = IsPos w g := IsPos.rowP (heap_alloc_old w o h)
theorem rowOf_allocO (w : World) (o : Obj) (g : Nat) (h : g < w.heap.size) : rowOf (w.alloc o) g = rowOf w g := rowOfP (heap_alloc_old w o h)
theorem setRow_otherP (w : World) (b g : Nat) (c : Array Value) (h : ¬ b = g) : (w.setRow b c).heap[g]? = w.heap[g]? := by
  simp [World.setRow, Array.getElem?_modify, h]
theorem isPos_setRowO (w : World) (b g : Nat) (c : Array Value) (h : ¬ b = g) : IsPos (w.setRow b c) g = IsPos w g := IsPos.rowP (setRow_otherP w b g c h)
theorem rowOf_setRowO (w : World) (b g : Nat) (c : Array Value) (h : ¬ b = g) : rowOf (w.setRow b c) g = rowOf w g := rowOfP (setRow_otherP w b g c h)
theorem isPos_newAt (w : World) (g : Nat) (n : Nat → Int) (h : w.heap.size = g) : IsPos (w.alloc (.cells (posA n) 31)) g := by
  subst h; exact (PosAt.new w n).is
theorem PosAt.newAt {w : World} {g : Nat} (n : Nat → Int) (h : w.heap.size = g) : PosAt (w.alloc (.cells (posA n) 31)) g n := by
  subst h; exact PosAt.new w n
theorem PosAt.setP {w : World} {g : Nat} {n : Nat → Int} (h : PosAt w g n) (i : Nat) (x : Int) {k : IntKind} (hk : k = kindAt i) : PosAt (w.setCell ⟨g, i, none⟩ (.int k x)) g (upd n i x) := by
  subst hk; exact h.set i x


set_option maxRecDepth 100000 in
set_option maxHeartbeats 8000000 in
theorem dp_M0 (n : Nat → Int) (hn : PosOk n) (k : Nat) (k1 : 1 ≤ k) (k5 : k ≤ 5) (hx1 : n (66 + k) ≠ 0) (hx2 : n (66 + k) < 255) (w : World) (hT : Tab w) :
    Calls Tryd.prog 5 #[.agg (posA n), .int .u8 0, .int .u8 (k : Int)] w fun e w' => e = .returned (.bool true) ∧ Below w.heap.size w w' := by
  have hf : fitsB (0 : Nat) k = true := (fits_iff 0 k).2 ⟨by decide, k1, k5⟩
  have hix : poIx 0 k = 66 + k := by unfold poIx; omega
  have hk8 : kindAt (66 + k) = .u8 := by
    have := kind_pock 0 k (by decide) (by omega)
    rwa [show 66 + 6 * 0 + k = 66 + k by omega] at this
  obtain ⟨x0, x1⟩ := hn.u8 (66 + k) (by omega) hk8
  have hA : addB n 0 k = true := by
    unfold addB; rw [hf, hix, Bool.true_and]; exact decide_eq_true (by omega)
  have hB : takB n 0 k = true := by
    unfold takB; rw [hf, hix, Bool.true_and]; rw [beq_eq_false_iff_ne.2 (by omega)]; rfl
  have hAe : addN n 0 k = upd n (66 + k) (n (66 + k) + 1) := by unfold addN; rw [hA]; rw [if_pos rfl, hix]
  have hBe : takN n 0 k = upd n (66 + k) (n (66 + k) - 1) := by unfold takN; rw [hB]; rw [if_pos rfl, hix]
  have aok := add_ok hn 0 k
  have bok := tak_ok hn 0 k
  have HADD : ∀ W, Calls Tryd.prog 17 #[.agg (posA n), .int .u8 0, .int .u8 (k : Int)] W fun e w' => e = .returned (.agg (posA (addN n 0 k))) ∧ Below W.heap.size W w' := fun W => add_any n hn 0 k (by decide) (by omega) W
  have HTAK : ∀ W, Calls Tryd.prog 18 #[.agg (posA n), .int .u8 0, .int .u8 (k : Int)] W fun e w' => e = .returned (.tuple #[.agg (posA (takN n 0 k)), .bool (takB n 0 k)]) ∧ Below W.heap.size W w' := fun W => tak_any n hn 0 k (by decide) (by omega) W
  rw [hB] at HTAK
  obtain ⟨a, ha⟩ : ∃ a, addN n 0 k = a := ⟨_, rfl⟩
  obtain ⟨b, hbn⟩ : ∃ b, takN n 0 k = b := ⟨_, rfl⟩
  rw [ha] at HADD aok hAe
  rw [hbn] at HTAK bok hBe
  obtain ⟨x, hx⟩ : ∃ x, n (66 + k) = x := ⟨_, rfl⟩
  rw [hx] at x0 x1 hAe hBe hx1 hx2
  have HX0 := hideIt hx
  have HK8 := hideIt hk8
  have HAe := hideIt hAe
  have HBe := hideIt hBe
  have dx1 : decide (x < 255) = true := decide_eq_true (by omega)
  have dx2 : decide (0 < x) = true := decide_eq_true (by omega)
  have W1 : IntKind.u8.wrap (x + 1) = x + 1 := IntWalk.u8_in _ (by omega)
  have W2 : IntKind.u8.wrap (x - 1) = x - 1 := IntWalk.u8_in _ (by omega)
  clear hf hix hk8 hA hB hAe hBe ha hbn hx hx1 hx2
  have GA : Hid (∀ W, Calls Tryd.prog 17 #[.agg (posA n), .int .u8 0, .int .u8 (k : Int)] W fun e w' => e = .returned (.agg (posA a)) ∧ Below W.heap.size W w') := HADD
  have GB : Hid (∀ W, Calls Tryd.prog 18 #[.agg (posA n), .int .u8 0, .int .u8 (k : Int)] W fun e w' => e = .returned (.tuple #[.agg (posA b), .bool true]) ∧ Below W.heap.size W w') := HTAK
  have HOA := hideIt aok
  have HOB := hideIt bok
  have EA := eqP_self a
  have EB := eqP_self b
  clear HADD HTAK aok bok
  obtain ⟨X, hX⟩ : ∃ X, w.alloc (.cells (posA n) 31) = X := ⟨_, rfl⟩
  obtain ⟨p0, hb⟩ := box1 w n X hX
  have HX := hideIt hX
  have HT0 := hideIt hT
  have hzp := zeroPos
  obtain ⟨i0, r0⟩ := p0.rules
  clear hX hT
  go_enter Tryd.func5, Tryd.ntmps5
  go_wp2_with (rw [HX.out])
  refine (GA.out _).mono ?_
  rintro e Y ⟨rfl, h1⟩
  have pY := p0.below h1 p0.lt
  have hbY := hb.trans (h1.mono hb.size)
  clear h1 i0 r0 p0 hb
  obtain ⟨V, hV⟩ : ∃ V, (Y.alloc (.cells (posA zeroN) 31)).setRow Y.heap.size (posA a) = V := ⟨_, rfl⟩
  have hV2 : Y.alloc (.cells (posA a) 31) = V := by rw [← hV, World.setRow_alloc_new]
  have pV : PosAt V w.heap.size n := by rw [← hV2]; exact pY.alloc _
  have aV : PosAt V Y.heap.size a := by rw [← hV2]; exact PosAt.new Y _
  have hbV : Below w.heap.size w V := by rw [← hV2]; exact hbY.alloc hbY.size _
  obtain ⟨g1, hg⟩ : ∃ g, Y.heap.size = g := ⟨_, rfl⟩
  rw [hg] at aV
  have hgw1 : w.heap.size < g1 := by have := pY.lt; omega
  have HV := hideIt hV
  have HG := hideIt hg
  obtain ⟨i0, r0⟩ := pV.rules
  clear hV hV2 hg pY hbY
  go_wp2_with (rw [HV.out, HG.out])
  refine (GB.out _).mono ?_
  rintro e Z ⟨rfl, h1⟩
  have pZ := pV.below h1 pV.lt
  have aZ := aV.below h1 aV.lt
  have hbZ := hbV.trans (h1.mono hbV.size)
  clear h1 i0 r0 pV aV hbV HV HG
  obtain ⟨V2, hV⟩ : ∃ V, (Z.alloc (.cells (posA zeroN) 31)).setRow Z.heap.size (posA b) = V := ⟨_, rfl⟩
  have hV2 : Z.alloc (.cells (posA b) 31) = V2 := by rw [← hV, World.setRow_alloc_new]
  have pW : PosAt V2 w.heap.size n := by rw [← hV2]; exact pZ.alloc _
  have aW : PosAt V2 g1 a := by rw [← hV2]; exact aZ.alloc _
  have bW : PosAt V2 Z.heap.size b := by rw [← hV2]; exact PosAt.new Z _
  have hbW : Below w.heap.size w V2 := by rw [← hV2]; exact hbZ.alloc hbZ.size _
  obtain ⟨g2, hg⟩ : ∃ g, Z.heap.size = g := ⟨_, rfl⟩
  rw [hg] at bW
  have hg12 : w.heap.size < g1 ∧ g1 < g2 := ⟨by have := hgw1; omega, by have := aZ.lt; omega⟩
  have HV := hideIt hV
  have HG := hideIt hg
  obtain ⟨i0, r0⟩ := pW.rules
  clear hV hV2 hg pZ aZ hbZ
  go_upto_region 4 with (rw [HV.out, HG.out])
  clear HV HG
  go_cut [11, 12] (fun u11 u12 wx => ∃ g3 g4 : Nat, u11 = .pointer (some ⟨g3, 0, none⟩) ∧ u12 = .pointer (some ⟨g4, 0, none⟩) ∧ Five w g1 g2 g3 g4 n a b n n wx ∧ (w.heap.size < g1 ∧ g1 < g2 ∧ g2 < g3 ∧ g2 < g4 ∧ g3 ≠ g4))
  case first =>
    have q1 := pW.lt
    have q2 := aW.lt
    have q3 := bW.lt
    have q5 : V2.heap.size ≠ w.heap.size := by omega
    have q6 : V2.heap.size + 1 ≠ w.heap.size := by omega
    have q7 : V2.heap.size ≠ V2.heap.size + 1 := by omega
    have q8 : V2.heap.size + 1 ≠ V2.heap.size := by omega
    have hle : w.heap.size ≤ V2.heap.size := by omega
    have hle1 : w.heap.size ≤ V2.heap.size + 1 := by omega
    have t0 : PosAt V2.drew w.heap.size n := pW.drew
    have t1 : PosAt (V2.alloc (.cells (posA zeroN) 31)).drew w.heap.size n := (pW.alloc _).drew
    have t2 : PosAt ((V2.alloc (.cells (posA zeroN) 31)).alloc (.cells (posA zeroN) 31)).drew w.heap.size n := ((pW.alloc _).alloc _).drew
    have t3 : PosAt ((V2.alloc (.cells (posA zeroN) 31)).drew.setRow V2.heap.size (posA n)) w.heap.size n := t1.otherRow q5 _
    have t4 : PosAt (((V2.alloc (.cells (posA zeroN) 31)).drew.setRow V2.heap.size (posA n)).alloc (.cells (posA zeroN) 31)) w.heap.size n := t3.alloc _
    have t5 : PosAt (((V2.alloc (.cells (posA zeroN) 31)).alloc (.cells (posA zeroN) 31)).drew.setRow V2.heap.size (posA n)) w.heap.size n := t2.otherRow q5 _
    have t6 : PosAt (((V2.alloc (.cells (posA zeroN) 31)).alloc (.cells (posA zeroN) 31)).drew.setRow (V2.heap.size + 1) (posA n)) w.heap.size n := t2.otherRow q6 _
    have u1 : PosAt (V2.alloc (.cells (posA zeroN) 31)).drew V2.heap.size zeroN := (PosAt.new V2 _).drew
    have u2 : PosAt ((V2.alloc (.cells (posA zeroN) 31)).alloc (.cells (posA zeroN) 31)).drew V2.heap.size zeroN := ((PosAt.new V2 _).alloc _).drew
    have u3 : PosAt (((V2.alloc (.cells (posA zeroN) 31)).alloc (.cells (posA zeroN) 31)).drew.setRow (V2.heap.size + 1) (posA n)) V2.heap.size zeroN := u2.otherRow q8 _
    have x2 : PosAt ((V2.alloc (.cells (posA zeroN) 31)).alloc (.cells (posA zeroN) 31)).drew (V2.heap.size + 1) zeroN := (PosAt.new1 V2 _ _).drew
    have x3 : PosAt (((V2.alloc (.cells (posA zeroN) 31)).alloc (.cells (posA zeroN) 31)).drew.setRow V2.heap.size (posA n)) (V2.heap.size + 1) zeroN := x2.otherRow q7 _
    have x4 : PosAt (((V2.alloc (.cells (posA zeroN) 31)).drew.setRow V2.heap.size (posA n)).alloc (.cells (posA zeroN) 31)) (V2.heap.size + 1) zeroN := PosAt.newAt zeroN (by rw [setRow_sizeP]; simp)
    have a1 : PosAt (V2.alloc (.cells (posA zeroN) 31)).drew g1 a := (aW.alloc _).drew
    have a2 : PosAt ((V2.alloc (.cells (posA zeroN) 31)).alloc (.cells (posA zeroN) 31)).drew g1 a := ((aW.alloc _).alloc _).drew
    have b1 : PosAt (V2.alloc (.cells (posA zeroN) 31)).drew g2 b := (bW.alloc _).drew
    have b2 : PosAt ((V2.alloc (.cells (posA zeroN) 31)).alloc (.cells (posA zeroN) 31)).drew g2 b := ((bW.alloc _).alloc _).drew
    have hb1 : Below w.heap.size w (V2.alloc (.cells (posA zeroN) 31)).drew := (hbW.alloc hle _).drew
    have hb2 : Below w.heap.size w ((V2.alloc (.cells (posA zeroN) 31)).alloc (.cells (posA zeroN) 31)).drew := ((hbW.alloc hle _).alloc (by simp; omega) _).drew
    have r1 : V2.heap.size ≠ g1 := by omega
    have r2 : V2.heap.size + 1 ≠ g1 := by omega
    have r3 : V2.heap.size ≠ g2 := by omega
    have r4 : V2.heap.size + 1 ≠ g2 := by omega
    have FA : Five w g1 g2 V2.heap.size (V2.heap.size + 1) n a b n n ((((V2.alloc (.cells (posA zeroN) 31)).alloc (.cells (posA zeroN) 31)).drew.setRow V2.heap.size (posA n)).setRow (V2.heap.size + 1) (posA n)) := ⟨t5.otherRow q6 _, (a2.otherRow r1 _).otherRow r2 _, (b2.otherRow r3 _).otherRow r4 _, (u2.setRow n).otherRow q8 _, x3.setRow n, below_setRow (below_setRow hb2 hle _) hle1 _⟩
    have FB : Five w g1 g2 V2.heap.size (V2.heap.size + 1) n a b n n ((((V2.alloc (.cells (posA zeroN) 31)).alloc (.cells (posA zeroN) 31)).drew.setRow (V2.heap.size + 1) (posA n)).setRow V2.heap.size (posA n)) := ⟨t6.otherRow q5 _, (a2.otherRow r2 _).otherRow r1 _, (b2.otherRow r4 _).otherRow r3 _, u3.setRow n, (x2.setRow n).otherRow q7 _, below_setRow (below_setRow hb2 hle1 _) hle _⟩
    have FC : Five w g1 g2 V2.heap.size (V2.heap.size + 1) n a b n n ((((V2.alloc (.cells (posA zeroN) 31)).drew.setRow V2.heap.size (posA n)).alloc (.cells (posA zeroN) 31)).setRow (V2.heap.size + 1) (posA n)) := ⟨t4.otherRow q6 _, ((a1.otherRow r1 _).alloc _).otherRow r2 _, ((b1.otherRow r3 _).alloc _).otherRow r4 _, ((u1.setRow n).alloc _).otherRow q8 _, x4.setRow n, below_setRow ((below_setRow hb1 hle _).alloc (by rw [setRow_sizeP]; simp; omega) _) hle1 _⟩
    have GA' := Five.swap FA
    have GB' := Five.swap FB
    have GC := Five.swap FC
    obtain ⟨i0, s0⟩ := t0.rules
    obtain ⟨i1, s1⟩ := t1.rules
    obtain ⟨i2, s2⟩ := t2.rules
    obtain ⟨i3, s3⟩ := t3.rules
    obtain ⟨i4, s4⟩ := t4.rules
    obtain ⟨i5, s5⟩ := t5.rules
    obtain ⟨i6, s6⟩ := t6.rules
    obtain ⟨i7, s7⟩ := u1.rules
    obtain ⟨i8, s8⟩ := u2.rules
    obtain ⟨i9, s9⟩ := u3.rules
    obtain ⟨i10, s10⟩ := x2.rules
    obtain ⟨i11, s11⟩ := x3.rules
    obtain ⟨i12, s12⟩ := x4.rules
    have HFA := hideIt FA
    have HFB := hideIt FB
    have HFC := hideIt FC
    have HGA := hideIt GA'
    have HGB := hideIt GB'
    have HGC := hideIt GC
    clear FA FB FC GA' GB' GC t0 t1 t2 t3 t4 t5 t6 u1 u2 u3 x2 x3 x4 a1 a2 b1 b2 hb1 hb2
    go_region
    all_goals
      go_wp2_with fail
      go_meet
      first | exact ⟨_, _, rfl, rfl, HFA.out, by omega⟩ | exact ⟨_, _, rfl, rfl, HFB.out, by omega⟩ | exact ⟨_, _, rfl, rfl, HFC.out, by omega⟩ | exact ⟨_, _, rfl, rfl, HGA.out, by omega⟩ | exact ⟨_, _, rfl, rfl, HGB.out, by omega⟩ | exact ⟨_, _, rfl, rfl, HGC.out, by omega⟩
  case rest =>
    obtain ⟨g3, g4, rfl, rfl, F5, hord⟩ := hcut
    have cp : wc.cell? ⟨w.heap.size, 66 + k, none⟩ = some (.int .u8 x) := by rw [F5.own.cell (66 + k) (by omega), HK8.out, HX0.out]
    have cm : wc.cell? ⟨g3, 66 + k, none⟩ = some (.int .u8 x) := by rw [F5.pm.cell (66 + k) (by omega), HK8.out, HX0.out]
    have cl : wc.cell? ⟨g4, 66 + k, none⟩ = some (.int .u8 x) := by rw [F5.pl.cell (66 + k) (by omega), HK8.out, HX0.out]
    have fm := F5.pm.free (66 + k)
    have fl := F5.pl.free (66 + k)
    obtain ⟨o1, o2, o3, o4, o5⟩ := hord
    have n1 : ¬ g3 = w.heap.size := by omega
    have n2 : ¬ w.heap.size = g3 := by omega
    have n3 : ¬ g4 = w.heap.size := by omega
    have n4 : ¬ w.heap.size = g4 := by omega
    have n5 : ¬ g4 = g3 := fun e => o5 e.symm
    have n6 : ¬ g3 = g1 := by omega
    have n7 : ¬ g3 = g2 := by omega
    have n8 : ¬ g4 = g1 := by omega
    have n9 : ¬ g4 = g2 := by omega
    have hl3 : w.heap.size ≤ g3 := by omega
    have hl4 : w.heap.size ≤ g4 := by omega
    obtain ⟨U1, hU1⟩ : ∃ U, (wc.setCell ⟨g3, 66 + k, none⟩ (.int .u8 (x + 1))).drew = U := ⟨_, rfl⟩
    have F6 : Five w g1 g2 g3 g4 n a b a n U1 := by
      rw [← hU1, HAe.out]
      exact ⟨(F5.own.other n1 _).drew, by rw [← HAe.out]; exact (F5.pa.other n6 _).drew, (F5.pb.other n7 _).drew, (F5.pm.setP (66 + k) (x + 1) (k := .u8) HK8.out.symm).drew, (F5.pl.other (b := g3) (fun e => n5 e.symm) _).drew, (Below.setCell (p := ⟨g3, 66 + k, none⟩) F5.below hl3 _).drew⟩
    have cp1 : U1.cell? ⟨w.heap.size, 66 + k, none⟩ = some (.int .u8 x) := by rw [F6.own.cell (66 + k) (by omega), HK8.out, HX0.out]
    have cl1 : U1.cell? ⟨g4, 66 + k, none⟩ = some (.int .u8 x) := by rw [F6.pl.cell (66 + k) (by omega), HK8.out, HX0.out]
    have fl1 := F6.pl.free (66 + k)
    have HU1 := hideIt hU1
    clear hU1
    obtain ⟨U2, hU2⟩ : ∃ U, (U1.setCell ⟨g4, 66 + k, none⟩ (.int .u8 (x - 1))).drew = U := ⟨_, rfl⟩
    have F7 : Five w g1 g2 g3 g4 n a b a b U2 := by
      rw [← hU2, HBe.out]
      exact ⟨(F6.own.other n3 _).drew, (F6.pa.other n8 _).drew, by rw [← HBe.out]; exact (F6.pb.other n9 _).drew, (F6.pm.other n5 _).drew, (F6.pl.setP (66 + k) (x - 1) (k := .u8) HK8.out.symm).drew, (Below.setCell (p := ⟨g4, 66 + k, none⟩) F6.below hl4 _).drew⟩
    have HU2 := hideIt hU2
    clear hU2
    have FM : PosAt U2 g3 a := F7.pm
    have FL : PosAt U2 g4 b := F7.pl
    obtain ⟨e1, e2⟩ := F7.pa.rules
    obtain ⟨e3, e4⟩ := F7.pb.rules
    obtain ⟨e5, e6⟩ := FM.rules
    obtain ⟨e7, e8⟩ := FL.rules
    have hbE := F7.below
    have hTE := HT0.out.below hbE (Nat.le_refl _)
    have okA := HOA.out
    have okB := HOB.out
    clear F6 F7 F5 FM FL
    have l0 : (0 : Int) ≤ (k : Int) := by omega
    have l1 : (k : Int) < 6 := by omega
    go_wp2_with fail
    go_region
    all_goals
      go_wp2_with (rw [HU1.out])
      go_region
      all_goals
        go_wp2_with (rw [HU2.out])
        refine (awakeD_any _ hTE).mono ?_
        rintro e w9 ⟨rfl, h1⟩
        have hbE := hbE.trans (h1.mono hbE.size)
        clear h1 e1 e2 e3 e4 e5 e6 e7 e8 hTE
        go_wp2
        go_ret
        exact ⟨rfl, hbE⟩


set_option maxRecDepth 100000 in
set_option maxHeartbeats 8000000 in
theorem dp_Z0 (n : Nat → Int) (hn : PosOk n) (k : Nat) (k1 : 1 ≤ k) (k5 : k ≤ 5) (hx1 : n (66 + k) = 0) (w : World) (hT : Tab w) :
    Calls Tryd.prog 5 #[.agg (posA n), .int .u8 0, .int .u8 (k : Int)] w fun e w' => e = .returned (.bool true) ∧ Below w.heap.size w w' := by
  have hf : fitsB (0 : Nat) k = true := (fits_iff 0 k).2 ⟨by decide, k1, k5⟩
  have hix : poIx 0 k = 66 + k := by unfold poIx; omega
  have hk8 : kindAt (66 + k) = .u8 := by
    have := kind_pock 0 k (by decide) (by omega)
    rwa [show 66 + 6 * 0 + k = 66 + k by omega] at this
  obtain ⟨x0, x1⟩ := hn.u8 (66 + k) (by omega) hk8
  have hA : addB n 0 k = true := by
    unfold addB; rw [hf, hix, Bool.true_and]; exact decide_eq_true (by omega)
  have hB : takB n 0 k = false := by
    unfold takB; rw [hf, hix, Bool.true_and]; rw [beq_iff_eq.2 hx1]; rfl
  have hAe : addN n 0 k = upd n (66 + k) (n (66 + k) + 1) := by unfold addN; rw [hA]; rw [if_pos rfl, hix]
  have hBe : takN n 0 k = n := by unfold takN; rw [hB]; rfl
  have aok := add_ok hn 0 k
  have bok := tak_ok hn 0 k
  have HADD : ∀ W, Calls Tryd.prog 17 #[.agg (posA n), .int .u8 0, .int .u8 (k : Int)] W fun e w' => e = .returned (.agg (posA (addN n 0 k))) ∧ Below W.heap.size W w' := fun W => add_any n hn 0 k (by decide) (by omega) W
  have HTAK : ∀ W, Calls Tryd.prog 18 #[.agg (posA n), .int .u8 0, .int .u8 (k : Int)] W fun e w' => e = .returned (.tuple #[.agg (posA (takN n 0 k)), .bool (takB n 0 k)]) ∧ Below W.heap.size W w' := fun W => tak_any n hn 0 k (by decide) (by omega) W
  rw [hB] at HTAK
  obtain ⟨a, ha⟩ : ∃ a, addN n 0 k = a := ⟨_, rfl⟩
  obtain ⟨b, hbn⟩ : ∃ b, takN n 0 k = b := ⟨_, rfl⟩
  rw [ha] at HADD aok hAe
  rw [hbn] at HTAK bok hBe
  obtain ⟨x, hx⟩ : ∃ x, n (66 + k) = x := ⟨_, rfl⟩
  rw [hx] at x0 x1 hAe hx1
  have HX0 := hideIt hx
  have HK8 := hideIt hk8
  have HAe := hideIt hAe
  have HBe := hideIt hBe
  have dx1 : decide (x < 255) = true := decide_eq_true (by omega)
  have dx2 : decide (0 < x) = false := decide_eq_false (by omega)
  have W1 : IntKind.u8.wrap (x + 1) = x + 1 := IntWalk.u8_in _ (by omega)
  
  clear hf hix hk8 hA hB hAe hBe ha hbn hx hx1
  have GA : Hid (∀ W, Calls Tryd.prog 17 #[.agg (posA n), .int .u8 0, .int .u8 (k : Int)] W fun e w' => e = .returned (.agg (posA a)) ∧ Below W.heap.size W w') := HADD
  have GB : Hid (∀ W, Calls Tryd.prog 18 #[.agg (posA n), .int .u8 0, .int .u8 (k : Int)] W fun e w' => e = .returned (.tuple #[.agg (posA b), .bool false]) ∧ Below W.heap.size W w') := HTAK
  have HOA := hideIt aok
  have HOB := hideIt bok
  have EA := eqP_self a
  have EB := eqP_self b
  clear HADD HTAK aok bok
  obtain ⟨X, hX⟩ : ∃ X, w.alloc (.cells (posA n) 31) = X := ⟨_, rfl⟩
  obtain ⟨p0, hb⟩ := box1 w n X hX
  have HX := hideIt hX
  have HT0 := hideIt hT
  have hzp := zeroPos
  obtain ⟨i0, r0⟩ := p0.rules
  clear hX hT
  go_enter Tryd.func5, Tryd.ntmps5
  go_wp2_with (rw [HX.out])
  refine (GA.out _).mono ?_
  rintro e Y ⟨rfl, h1⟩
  have pY := p0.below h1 p0.lt
  have hbY := hb.trans (h1.mono hb.size)
  clear h1 i0 r0 p0 hb
  obtain ⟨V, hV⟩ : ∃ V, (Y.alloc (.cells (posA zeroN) 31)).setRow Y.heap.size (posA a) = V := ⟨_, rfl⟩
  have hV2 : Y.alloc (.cells (posA a) 31) = V := by rw [← hV, World.setRow_alloc_new]
  have pV : PosAt V w.heap.size n := by rw [← hV2]; exact pY.alloc _
  have aV : PosAt V Y.heap.size a := by rw [← hV2]; exact PosAt.new Y _
  have hbV : Below w.heap.size w V := by rw [← hV2]; exact hbY.alloc hbY.size _
  obtain ⟨g1, hg⟩ : ∃ g, Y.heap.size = g := ⟨_, rfl⟩
  rw [hg] at aV
  have hgw1 : w.heap.size < g1 := by have := pY.lt; omega
  have HV := hideIt hV
  have HG := hideIt hg
  obtain ⟨i0, r0⟩ := pV.rules
  clear hV hV2 hg pY hbY
  go_wp2_with (rw [HV.out, HG.out])
  refine (GB.out _).mono ?_
  rintro e Z ⟨rfl, h1⟩
  have pZ := pV.below h1 pV.lt
  have aZ := aV.below h1 aV.lt
  have hbZ := hbV.trans (h1.mono hbV.size)
  clear h1 i0 r0 pV aV hbV HV HG
  obtain ⟨V2, hV⟩ : ∃ V, (Z.alloc (.cells (posA zeroN) 31)).setRow Z.heap.size (posA b) = V := ⟨_, rfl⟩
  have hV2 : Z.alloc (.cells (posA b) 31) = V2 := by rw [← hV, World.setRow_alloc_new]
  have pW : PosAt V2 w.heap.size n := by rw [← hV2]; exact pZ.alloc _
  have aW : PosAt V2 g1 a := by rw [← hV2]; exact aZ.alloc _
  have bW : PosAt V2 Z.heap.size b := by rw [← hV2]; exact PosAt.new Z _
  have hbW : Below w.heap.size w V2 := by rw [← hV2]; exact hbZ.alloc hbZ.size _
  obtain ⟨g2, hg⟩ : ∃ g, Z.heap.size = g := ⟨_, rfl⟩
  rw [hg] at bW
  have hg12 : w.heap.size < g1 ∧ g1 < g2 := ⟨by have := hgw1; omega, by have := aZ.lt; omega⟩
  have HV := hideIt hV
  have HG := hideIt hg
  obtain ⟨i0, r0⟩ := pW.rules
  clear hV hV2 hg pZ aZ hbZ
  go_upto_region 4 with (rw [HV.out, HG.out])
  clear HV HG
  go_cut [11, 12] (fun u11 u12 wx => ∃ g3 g4 : Nat, u11 = .pointer (some ⟨g3, 0, none⟩) ∧ u12 = .pointer (some ⟨g4, 0, none⟩) ∧ Five w g1 g2 g3 g4 n a b n n wx ∧ (w.heap.size < g1 ∧ g1 < g2 ∧ g2 < g3 ∧ g2 < g4 ∧ g3 ≠ g4))
  case first =>
    have q1 := pW.lt
    have q2 := aW.lt
    have q3 := bW.lt
    have q5 : V2.heap.size ≠ w.heap.size := by omega
    have q6 : V2.heap.size + 1 ≠ w.heap.size := by omega
    have q7 : V2.heap.size ≠ V2.heap.size + 1 := by omega
    have q8 : V2.heap.size + 1 ≠ V2.heap.size := by omega
    have hle : w.heap.size ≤ V2.heap.size := by omega
    have hle1 : w.heap.size ≤ V2.heap.size + 1 := by omega
    have t0 : PosAt V2.drew w.heap.size n := pW.drew
    have t1 : PosAt (V2.alloc (.cells (posA zeroN) 31)).drew w.heap.size n := (pW.alloc _).drew
    have t2 : PosAt ((V2.alloc (.cells (posA zeroN) 31)).alloc (.cells (posA zeroN) 31)).drew w.heap.size n := ((pW.alloc _).alloc _).drew
    have t3 : PosAt ((V2.alloc (.cells (posA zeroN) 31)).drew.setRow V2.heap.size (posA n)) w.heap.size n := t1.otherRow q5 _
    have t4 : PosAt (((V2.alloc (.cells (posA zeroN) 31)).drew.setRow V2.heap.size (posA n)).alloc (.cells (posA zeroN) 31)) w.heap.size n := t3.alloc _
    have t5 : PosAt (((V2.alloc (.cells (posA zeroN) 31)).alloc (.cells (posA zeroN) 31)).drew.setRow V2.heap.size (posA n)) w.heap.size n := t2.otherRow q5 _
    have t6 : PosAt (((V2.alloc (.cells (posA zeroN) 31)).alloc (.cells (posA zeroN) 31)).drew.setRow (V2.heap.size + 1) (posA n)) w.heap.size n := t2.otherRow q6 _
    have u1 : PosAt (V2.alloc (.cells (posA zeroN) 31)).drew V2.heap.size zeroN := (PosAt.new V2 _).drew
    have u2 : PosAt ((V2.alloc (.cells (posA zeroN) 31)).alloc (.cells (posA zeroN) 31)).drew V2.heap.size zeroN := ((PosAt.new V2 _).alloc _).drew
    have u3 : PosAt (((V2.alloc (.cells (posA zeroN) 31)).alloc (.cells (posA zeroN) 31)).drew.setRow (V2.heap.size + 1) (posA n)) V2.heap.size zeroN := u2.otherRow q8 _
    have x2 : PosAt ((V2.alloc (.cells (posA zeroN) 31)).alloc (.cells (posA zeroN) 31)).drew (V2.heap.size + 1) zeroN := (PosAt.new1 V2 _ _).drew
    have x3 : PosAt (((V2.alloc (.cells (posA zeroN) 31)).alloc (.cells (posA zeroN) 31)).drew.setRow V2.heap.size (posA n)) (V2.heap.size + 1) zeroN := x2.otherRow q7 _
    have x4 : PosAt (((V2.alloc (.cells (posA zeroN) 31)).drew.setRow V2.heap.size (posA n)).alloc (.cells (posA zeroN) 31)) (V2.heap.size + 1) zeroN := PosAt.newAt zeroN (by rw [setRow_sizeP]; simp)
    have a1 : PosAt (V2.alloc (.cells (posA zeroN) 31)).drew g1 a := (aW.alloc _).drew
    have a2 : PosAt ((V2.alloc (.cells (posA zeroN) 31)).alloc (.cells (posA zeroN) 31)).drew g1 a := ((aW.alloc _).alloc _).drew
    have b1 : PosAt (V2.alloc (.cells (posA zeroN) 31)).drew g2 b := (bW.alloc _).drew
    have b2 : PosAt ((V2.alloc (.cells (posA zeroN) 31)).alloc (.cells (posA zeroN) 31)).drew g2 b := ((bW.alloc _).alloc _).drew
    have hb1 : Below w.heap.size w (V2.alloc (.cells (posA zeroN) 31)).drew := (hbW.alloc hle _).drew
    have hb2 : Below w.heap.size w ((V2.alloc (.cells (posA zeroN) 31)).alloc (.cells (posA zeroN) 31)).drew := ((hbW.alloc hle _).alloc (by simp; omega) _).drew
    have r1 : V2.heap.size ≠ g1 := by omega
    have r2 : V2.heap.size + 1 ≠ g1 := by omega
    have r3 : V2.heap.size ≠ g2 := by omega
    have r4 : V2.heap.size + 1 ≠ g2 := by omega
    have FA : Five w g1 g2 V2.heap.size (V2.heap.size + 1) n a b n n ((((V2.alloc (.cells (posA zeroN) 31)).alloc (.cells (posA zeroN) 31)).drew.setRow V2.heap.size (posA n)).setRow (V2.heap.size + 1) (posA n)) := ⟨t5.otherRow q6 _, (a2.otherRow r1 _).otherRow r2 _, (b2.otherRow r3 _).otherRow r4 _, (u2.setRow n).otherRow q8 _, x3.setRow n, below_setRow (below_setRow hb2 hle _) hle1 _⟩
    have FB : Five w g1 g2 V2.heap.size (V2.heap.size + 1) n a b n n ((((V2.alloc (.cells (posA zeroN) 31)).alloc (.cells (posA zeroN) 31)).drew.setRow (V2.heap.size + 1) (posA n)).setRow V2.heap.size (posA n)) := ⟨t6.otherRow q5 _, (a2.otherRow r2 _).otherRow r1 _, (b2.otherRow r4 _).otherRow r3 _, u3.setRow n, (x2.setRow n).otherRow q7 _, below_setRow (below_setRow hb2 hle1 _) hle _⟩
    have FC : Five w g1 g2 V2.heap.size (V2.heap.size + 1) n a b n n ((((V2.alloc (.cells (posA zeroN) 31)).drew.setRow V2.heap.size (posA n)).alloc (.cells (posA zeroN) 31)).setRow (V2.heap.size + 1) (posA n)) := ⟨t4.otherRow q6 _, ((a1.otherRow r1 _).alloc _).otherRow r2 _, ((b1.otherRow r3 _).alloc _).otherRow r4 _, ((u1.setRow n).alloc _).otherRow q8 _, x4.setRow n, below_setRow ((below_setRow hb1 hle _).alloc (by rw [setRow_sizeP]; simp; omega) _) hle1 _⟩
    have GA' := Five.swap FA
    have GB' := Five.swap FB
    have GC := Five.swap FC
    obtain ⟨i0, s0⟩ := t0.rules
    obtain ⟨i1, s1⟩ := t1.rules
    obtain ⟨i2, s2⟩ := t2.rules
    obtain ⟨i3, s3⟩ := t3.rules
    obtain ⟨i4, s4⟩ := t4.rules
    obtain ⟨i5, s5⟩ := t5.rules
    obtain ⟨i6, s6⟩ := t6.rules
    obtain ⟨i7, s7⟩ := u1.rules
    obtain ⟨i8, s8⟩ := u2.rules
    obtain ⟨i9, s9⟩ := u3.rules
    obtain ⟨i10, s10⟩ := x2.rules
    obtain ⟨i11, s11⟩ := x3.rules
    obtain ⟨i12, s12⟩ := x4.rules
    have HFA := hideIt FA
    have HFB := hideIt FB
    have HFC := hideIt FC
    have HGA := hideIt GA'
    have HGB := hideIt GB'
    have HGC := hideIt GC
    clear FA FB FC GA' GB' GC t0 t1 t2 t3 t4 t5 t6 u1 u2 u3 x2 x3 x4 a1 a2 b1 b2 hb1 hb2
    go_region
    all_goals
      go_wp2_with fail
      go_meet
      first | exact ⟨_, _, rfl, rfl, HFA.out, by omega⟩ | exact ⟨_, _, rfl, rfl, HFB.out, by omega⟩ | exact ⟨_, _, rfl, rfl, HFC.out, by omega⟩ | exact ⟨_, _, rfl, rfl, HGA.out, by omega⟩ | exact ⟨_, _, rfl, rfl, HGB.out, by omega⟩ | exact ⟨_, _, rfl, rfl, HGC.out, by omega⟩
  case rest =>
    obtain ⟨g3, g4, rfl, rfl, F5, hord⟩ := hcut
    have cp : wc.cell? ⟨w.heap.size, 66 + k, none⟩ = some (.int .u8 x) := by rw [F5.own.cell (66 + k) (by omega), HK8.out, HX0.out]
    have cm : wc.cell? ⟨g3, 66 + k, none⟩ = some (.int .u8 x) := by rw [F5.pm.cell (66 + k) (by omega), HK8.out, HX0.out]
    have cl : wc.cell? ⟨g4, 66 + k, none⟩ = some (.int .u8 x) := by rw [F5.pl.cell (66 + k) (by omega), HK8.out, HX0.out]
    have fm := F5.pm.free (66 + k)
    have fl := F5.pl.free (66 + k)
    obtain ⟨o1, o2, o3, o4, o5⟩ := hord
    have n1 : ¬ g3 = w.heap.size := by omega
    have n2 : ¬ w.heap.size = g3 := by omega
    have n3 : ¬ g4 = w.heap.size := by omega
    have n4 : ¬ w.heap.size = g4 := by omega
    have n5 : ¬ g4 = g3 := fun e => o5 e.symm
    have n6 : ¬ g3 = g1 := by omega
    have n7 : ¬ g3 = g2 := by omega
    have n8 : ¬ g4 = g1 := by omega
    have n9 : ¬ g4 = g2 := by omega
    have hl3 : w.heap.size ≤ g3 := by omega
    have hl4 : w.heap.size ≤ g4 := by omega
    obtain ⟨U1, hU1⟩ : ∃ U, (wc.setCell ⟨g3, 66 + k, none⟩ (.int .u8 (x + 1))).drew = U := ⟨_, rfl⟩
    have F6 : Five w g1 g2 g3 g4 n a b a n U1 := by
      rw [← hU1, HAe.out]
      exact ⟨(F5.own.other n1 _).drew, by rw [← HAe.out]; exact (F5.pa.other n6 _).drew, (F5.pb.other n7 _).drew, (F5.pm.setP (66 + k) (x + 1) (k := .u8) HK8.out.symm).drew, (F5.pl.other (b := g3) (fun e => n5 e.symm) _).drew, (Below.setCell (p := ⟨g3, 66 + k, none⟩) F5.below hl3 _).drew⟩
    have cp1 : U1.cell? ⟨w.heap.size, 66 + k, none⟩ = some (.int .u8 x) := by rw [F6.own.cell (66 + k) (by omega), HK8.out, HX0.out]
    have cl1 : U1.cell? ⟨g4, 66 + k, none⟩ = some (.int .u8 x) := by rw [F6.pl.cell (66 + k) (by omega), HK8.out, HX0.out]
    have fl1 := F6.pl.free (66 + k)
    have HU1 := hideIt hU1
    clear hU1
    have FM : PosAt U1 g3 a := F6.pm
    have FL : PosAt U1 g4 b := by rw [HBe.out]; exact F6.pl
    obtain ⟨e1, e2⟩ := F6.pa.rules
    obtain ⟨e3, e4⟩ := F6.pb.rules
    obtain ⟨e5, e6⟩ := FM.rules
    obtain ⟨e7, e8⟩ := FL.rules
    have hbE := F6.below
    have hTE := HT0.out.below hbE (Nat.le_refl _)
    have okA := HOA.out
    have okB := HOB.out
    clear F6 F5 FM FL
    have l0 : (0 : Int) ≤ (k : Int) := by omega
    have l1 : (k : Int) < 6 := by omega
    go_wp2_with fail
    go_region
    all_goals
      go_wp2_with (rw [HU1.out])
      refine (awakeD_any _ hTE).mono ?_
      rintro e w9 ⟨rfl, h1⟩
      have hbE := hbE.trans (h1.mono hbE.size)
      clear h1 e1 e2 e3 e4 e5 e6 e7 e8 hTE
      go_wp2
      go_ret
      exact ⟨rfl, hbE⟩


set_option maxRecDepth 100000 in
set_option maxHeartbeats 8000000 in
theorem dp_F0 (n : Nat → Int) (hn : PosOk n) (k : Nat) (k1 : 1 ≤ k) (k5 : k ≤ 5) (hx1 : n (66 + k) = 255) (w : World) (hT : Tab w) :
    Calls Tryd.prog 5 #[.agg (posA n), .int .u8 0, .int .u8 (k : Int)] w fun e w' => e = .returned (.bool true) ∧ Below w.heap.size w w' := by
  have hf : fitsB (0 : Nat) k = true := (fits_iff 0 k).2 ⟨by decide, k1, k5⟩
  have hix : poIx 0 k = 66 + k := by unfold poIx; omega
  have hk8 : kindAt (66 + k) = .u8 := by
    have := kind_pock 0 k (by decide) (by omega)
    rwa [show 66 + 6 * 0 + k = 66 + k by omega] at this
  obtain ⟨x0, x1⟩ := hn.u8 (66 + k) (by omega) hk8
  have hA : addB n 0 k = false := by
    unfold addB; rw [hf, hix, Bool.true_and]; exact decide_eq_false (by omega)
  have hB : takB n 0 k = true := by
    unfold takB; rw [hf, hix, Bool.true_and]; rw [beq_eq_false_iff_ne.2 (by omega)]; rfl
  have hAe : addN n 0 k = n := by unfold addN; rw [hA]; rfl
  have hBe : takN n 0 k = upd n (66 + k) (n (66 + k) - 1) := by unfold takN; rw [hB]; rw [if_pos rfl, hix]
  have aok := add_ok hn 0 k
  have bok := tak_ok hn 0 k
  have HADD : ∀ W, Calls Tryd.prog 17 #[.agg (posA n), .int .u8 0, .int .u8 (k : Int)] W fun e w' => e = .returned (.agg (posA (addN n 0 k))) ∧ Below W.heap.size W w' := fun W => add_any n hn 0 k (by decide) (by omega) W
  have HTAK : ∀ W, Calls Tryd.prog 18 #[.agg (posA n), .int .u8 0, .int .u8 (k : Int)] W fun e w' => e = .returned (.tuple #[.agg (posA (takN n 0 k)), .bool (takB n 0 k)]) ∧ Below W.heap.size W w' := fun W => tak_any n hn 0 k (by decide) (by omega) W
  rw [hB] at HTAK
  obtain ⟨a, ha⟩ : ∃ a, addN n 0 k = a := ⟨_, rfl⟩
  obtain ⟨b, hbn⟩ : ∃ b, takN n 0 k = b := ⟨_, rfl⟩
  rw [ha] at HADD aok hAe
  rw [hbn] at HTAK bok hBe
  obtain ⟨x, hx⟩ : ∃ x, n (66 + k) = x := ⟨_, rfl⟩
  rw [hx] at x0 x1 hBe hx1
  have HX0 := hideIt hx
  have HK8 := hideIt hk8
  have HAe := hideIt hAe
  have HBe := hideIt hBe
  have dx1 : decide (x < 255) = false := decide_eq_false (by omega)
  have dx2 : decide (0 < x) = true := decide_eq_true (by omega)
  
  have W2 : IntKind.u8.wrap (x - 1) = x - 1 := IntWalk.u8_in _ (by omega)
  clear hf hix hk8 hA hB hAe hBe ha hbn hx hx1
  have GA : Hid (∀ W, Calls Tryd.prog 17 #[.agg (posA n), .int .u8 0, .int .u8 (k : Int)] W fun e w' => e = .returned (.agg (posA a)) ∧ Below W.heap.size W w') := HADD
  have GB : Hid (∀ W, Calls Tryd.prog 18 #[.agg (posA n), .int .u8 0, .int .u8 (k : Int)] W fun e w' => e = .returned (.tuple #[.agg (posA b), .bool true]) ∧ Below W.heap.size W w') := HTAK
  have HOA := hideIt aok
  have HOB := hideIt bok
  have EA := eqP_self a
  have EB := eqP_self b
  clear HADD HTAK aok bok
  obtain ⟨X, hX⟩ : ∃ X, w.alloc (.cells (posA n) 31) = X := ⟨_, rfl⟩
  obtain ⟨p0, hb⟩ := box1 w n X hX
  have HX := hideIt hX
  have HT0 := hideIt hT
  have hzp := zeroPos
  obtain ⟨i0, r0⟩ := p0.rules
  clear hX hT
  go_enter Tryd.func5, Tryd.ntmps5
  go_wp2_with (rw [HX.out])
  refine (GA.out _).mono ?_
  rintro e Y ⟨rfl, h1⟩
  have pY := p0.below h1 p0.lt
  have hbY := hb.trans (h1.mono hb.size)
  clear h1 i0 r0 p0 hb
  obtain ⟨V, hV⟩ : ∃ V, (Y.alloc (.cells (posA zeroN) 31)).setRow Y.heap.size (posA a) = V := ⟨_, rfl⟩
  have hV2 : Y.alloc (.cells (posA a) 31) = V := by rw [← hV, World.setRow_alloc_new]
  have pV : PosAt V w.heap.size n := by rw [← hV2]; exact pY.alloc _
  have aV : PosAt V Y.heap.size a := by rw [← hV2]; exact PosAt.new Y _
  have hbV : Below w.heap.size w V := by rw [← hV2]; exact hbY.alloc hbY.size _
  obtain ⟨g1, hg⟩ : ∃ g, Y.heap.size = g := ⟨_, rfl⟩
  rw [hg] at aV
  have hgw1 : w.heap.size < g1 := by have := pY.lt; omega
  have HV := hideIt hV
  have HG := hideIt hg
  obtain ⟨i0, r0⟩ := pV.rules
  clear hV hV2 hg pY hbY
  go_wp2_with (rw [HV.out, HG.out])
  refine (GB.out _).mono ?_
  rintro e Z ⟨rfl, h1⟩
  have pZ := pV.below h1 pV.lt
  have aZ := aV.below h1 aV.lt
  have hbZ := hbV.trans (h1.mono hbV.size)
  clear h1 i0 r0 pV aV hbV HV HG
  obtain ⟨V2, hV⟩ : ∃ V, (Z.alloc (.cells (posA zeroN) 31)).setRow Z.heap.size (posA b) = V := ⟨_, rfl⟩
  have hV2 : Z.alloc (.cells (posA b) 31) = V2 := by rw [← hV, World.setRow_alloc_new]
  have pW : PosAt V2 w.heap.size n := by rw [← hV2]; exact pZ.alloc _
  have aW : PosAt V2 g1 a := by rw [← hV2]; exact aZ.alloc _
  have bW : PosAt V2 Z.heap.size b := by rw [← hV2]; exact PosAt.new Z _
  have hbW : Below w.heap.size w V2 := by rw [← hV2]; exact hbZ.alloc hbZ.size _
  obtain ⟨g2, hg⟩ : ∃ g, Z.heap.size = g := ⟨_, rfl⟩
  rw [hg] at bW
  have hg12 : w.heap.size < g1 ∧ g1 < g2 := ⟨by have := hgw1; omega, by have := aZ.lt; omega⟩
  have HV := hideIt hV
  have HG := hideIt hg
  obtain ⟨i0, r0⟩ := pW.rules
  clear hV hV2 hg pZ aZ hbZ
  go_upto_region 4 with (rw [HV.out, HG.out])
  clear HV HG
  go_cut [11, 12] (fun u11 u12 wx => ∃ g3 g4 : Nat, u11 = .pointer (some ⟨g3, 0, none⟩) ∧ u12 = .pointer (some ⟨g4, 0, none⟩) ∧ Five w g1 g2 g3 g4 n a b n n wx ∧ (w.heap.size < g1 ∧ g1 < g2 ∧ g2 < g3 ∧ g2 < g4 ∧ g3 ≠ g4))
  case first =>
    have q1 := pW.lt
    have q2 := aW.lt
    have q3 := bW.lt
    have q5 : V2.heap.size ≠ w.heap.size := by omega
    have q6 : V2.heap.size + 1 ≠ w.heap.size := by omega
    have q7 : V2.heap.size ≠ V2.heap.size + 1 := by omega
    have q8 : V2.heap.size + 1 ≠ V2.heap.size := by omega
    have hle : w.heap.size ≤ V2.heap.size := by omega
    have hle1 : w.heap.size ≤ V2.heap.size + 1 := by omega
    have t0 : PosAt V2.drew w.heap.size n := pW.drew
    have t1 : PosAt (V2.alloc (.cells (posA zeroN) 31)).drew w.heap.size n := (pW.alloc _).drew
    have t2 : PosAt ((V2.alloc (.cells (posA zeroN) 31)).alloc (.cells (posA zeroN) 31)).drew w.heap.size n := ((pW.alloc _).alloc _).drew
    have t3 : PosAt ((V2.alloc (.cells (posA zeroN) 31)).drew.setRow V2.heap.size (posA n)) w.heap.size n := t1.otherRow q5 _
    have t4 : PosAt (((V2.alloc (.cells (posA zeroN) 31)).drew.setRow V2.heap.size (posA n)).alloc (.cells (posA zeroN) 31)) w.heap.size n := t3.alloc _
    have t5 : PosAt (((V2.alloc (.cells (posA zeroN) 31)).alloc (.cells (posA zeroN) 31)).drew.setRow V2.heap.size (posA n)) w.heap.size n := t2.otherRow q5 _
    have t6 : PosAt (((V2.alloc (.cells (posA zeroN) 31)).alloc (.cells (posA zeroN) 31)).drew.setRow (V2.heap.size + 1) (posA n)) w.heap.size n := t2.otherRow q6 _
    have u1 : PosAt (V2.alloc (.cells (posA zeroN) 31)).drew V2.heap.size zeroN := (PosAt.new V2 _).drew
    have u2 : PosAt ((V2.alloc (.cells (posA zeroN) 31)).alloc (.cells (posA zeroN) 31)).drew V2.heap.size zeroN := ((PosAt.new V2 _).alloc _).drew
    have u3 : PosAt (((V2.alloc (.cells (posA zeroN) 31)).alloc (.cells (posA zeroN) 31)).drew.setRow (V2.heap.size + 1) (posA n)) V2.heap.size zeroN := u2.otherRow q8 _
    have x2 : PosAt ((V2.alloc (.cells (posA zeroN) 31)).alloc (.cells (posA zeroN) 31)).drew (V2.heap.size + 1) zeroN := (PosAt.new1 V2 _ _).drew
    have x3 : PosAt (((V2.alloc (.cells (posA zeroN) 31)).alloc (.cells (posA zeroN) 31)).drew.setRow V2.heap.size (posA n)) (V2.heap.size + 1) zeroN := x2.otherRow q7 _
    have x4 : PosAt (((V2.alloc (.cells (posA zeroN) 31)).drew.setRow V2.heap.size (posA n)).alloc (.cells (posA zeroN) 31)) (V2.heap.size + 1) zeroN := PosAt.newAt zeroN (by rw [setRow_sizeP]; simp)
    have a1 : PosAt (V2.alloc (.cells (posA zeroN) 31)).drew g1 a := (aW.alloc _).drew
    have a2 : PosAt ((V2.alloc (.cells (posA zeroN) 31)).alloc (.cells (posA zeroN) 31)).drew g1 a := ((aW.alloc _).alloc _).drew
    have b1 : PosAt (V2.alloc (.cells (posA zeroN) 31)).drew g2 b := (bW.alloc _).drew
    have b2 : PosAt ((V2.alloc (.cells (posA zeroN) 31)).alloc (.cells (posA zeroN) 31)).drew g2 b := ((bW.alloc _).alloc _).drew
    have hb1 : Below w.heap.size w (V2.alloc (.cells (posA zeroN) 31)).drew := (hbW.alloc hle _).drew
    have hb2 : Below w.heap.size w ((V2.alloc (.cells (posA zeroN) 31)).alloc (.cells (posA zeroN) 31)).drew := ((hbW.alloc hle _).alloc (by simp; omega) _).drew
    have r1 : V2.heap.size ≠ g1 := by omega
    have r2 : V2.heap.size + 1 ≠ g1 := by omega
    have r3 : V2.heap.size ≠ g2 := by omega
    have r4 : V2.heap.size + 1 ≠ g2 := by omega
    have FA : Five w g1 g2 V2.heap.size (V2.heap.size + 1) n a b n n ((((V2.alloc (.cells (posA zeroN) 31)).alloc (.cells (posA zeroN) 31)).drew.setRow V2.heap.size (posA n)).setRow (V2.heap.size + 1) (posA n)) := ⟨t5.otherRow q6 _, (a2.otherRow r1 _).otherRow r2 _, (b2.otherRow r3 _).otherRow r4 _, (u2.setRow n).otherRow q8 _, x3.setRow n, below_setRow (below_setRow hb2 hle _) hle1 _⟩
    have FB : Five w g1 g2 V2.heap.size (V2.heap.size + 1) n a b n n ((((V2.alloc (.cells (posA zeroN) 31)).alloc (.cells (posA zeroN) 31)).drew.setRow (V2.heap.size + 1) (posA n)).setRow V2.heap.size (posA n)) := ⟨t6.otherRow q5 _, (a2.otherRow r2 _).otherRow r1 _, (b2.otherRow r4 _).otherRow r3 _, u3.setRow n, (x2.setRow n).otherRow q7 _, below_setRow (below_setRow hb2 hle1 _) hle _⟩
    have FC : Five w g1 g2 V2.heap.size (V2.heap.size + 1) n a b n n ((((V2.alloc (.cells (posA zeroN) 31)).drew.setRow V2.heap.size (posA n)).alloc (.cells (posA zeroN) 31)).setRow (V2.heap.size + 1) (posA n)) := ⟨t4.otherRow q6 _, ((a1.otherRow r1 _).alloc _).otherRow r2 _, ((b1.otherRow r3 _).alloc _).otherRow r4 _, ((u1.setRow n).alloc _).otherRow q8 _, x4.setRow n, below_setRow ((below_setRow hb1 hle _).alloc (by rw [setRow_sizeP]; simp; omega) _) hle1 _⟩
    have GA' := Five.swap FA
    have GB' := Five.swap FB
    have GC := Five.swap FC
    obtain ⟨i0, s0⟩ := t0.rules
    obtain ⟨i1, s1⟩ := t1.rules
    obtain ⟨i2, s2⟩ := t2.rules
    obtain ⟨i3, s3⟩ := t3.rules
    obtain ⟨i4, s4⟩ := t4.rules
    obtain ⟨i5, s5⟩ := t5.rules
    obtain ⟨i6, s6⟩ := t6.rules
    obtain ⟨i7, s7⟩ := u1.rules
    obtain ⟨i8, s8⟩ := u2.rules
    obtain ⟨i9, s9⟩ := u3.rules
    obtain ⟨i10, s10⟩ := x2.rules
    obtain ⟨i11, s11⟩ := x3.rules
    obtain ⟨i12, s12⟩ := x4.rules
    have HFA := hideIt FA
    have HFB := hideIt FB
    have HFC := hideIt FC
    have HGA := hideIt GA'
    have HGB := hideIt GB'
    have HGC := hideIt GC
    clear FA FB FC GA' GB' GC t0 t1 t2 t3 t4 t5 t6 u1 u2 u3 x2 x3 x4 a1 a2 b1 b2 hb1 hb2
    go_region
    all_goals
      go_wp2_with fail
      go_meet
      first | exact ⟨_, _, rfl, rfl, HFA.out, by omega⟩ | exact ⟨_, _, rfl, rfl, HFB.out, by omega⟩ | exact ⟨_, _, rfl, rfl, HFC.out, by omega⟩ | exact ⟨_, _, rfl, rfl, HGA.out, by omega⟩ | exact ⟨_, _, rfl, rfl, HGB.out, by omega⟩ | exact ⟨_, _, rfl, rfl, HGC.out, by omega⟩
  case rest =>
    obtain ⟨g3, g4, rfl, rfl, F5, hord⟩ := hcut
    have cp : wc.cell? ⟨w.heap.size, 66 + k, none⟩ = some (.int .u8 x) := by rw [F5.own.cell (66 + k) (by omega), HK8.out, HX0.out]
    have cm : wc.cell? ⟨g3, 66 + k, none⟩ = some (.int .u8 x) := by rw [F5.pm.cell (66 + k) (by omega), HK8.out, HX0.out]
    have cl : wc.cell? ⟨g4, 66 + k, none⟩ = some (.int .u8 x) := by rw [F5.pl.cell (66 + k) (by omega), HK8.out, HX0.out]
    have fm := F5.pm.free (66 + k)
    have fl := F5.pl.free (66 + k)
    obtain ⟨o1, o2, o3, o4, o5⟩ := hord
    have n1 : ¬ g3 = w.heap.size := by omega
    have n2 : ¬ w.heap.size = g3 := by omega
    have n3 : ¬ g4 = w.heap.size := by omega
    have n4 : ¬ w.heap.size = g4 := by omega
    have n5 : ¬ g4 = g3 := fun e => o5 e.symm
    have n6 : ¬ g3 = g1 := by omega
    have n7 : ¬ g3 = g2 := by omega
    have n8 : ¬ g4 = g1 := by omega
    have n9 : ¬ g4 = g2 := by omega
    have hl3 : w.heap.size ≤ g3 := by omega
    have hl4 : w.heap.size ≤ g4 := by omega
    obtain ⟨U2, hU2⟩ : ∃ U, (wc.setCell ⟨g4, 66 + k, none⟩ (.int .u8 (x - 1))).drew = U := ⟨_, rfl⟩
    have F7 : Five w g1 g2 g3 g4 n a b n b U2 := by
      rw [← hU2, HBe.out]
      exact ⟨(F5.own.other n3 _).drew, (F5.pa.other n8 _).drew, by rw [← HBe.out]; exact (F5.pb.other n9 _).drew, (F5.pm.other n5 _).drew, (F5.pl.setP (66 + k) (x - 1) (k := .u8) HK8.out.symm).drew, (Below.setCell (p := ⟨g4, 66 + k, none⟩) F5.below hl4 _).drew⟩
    have HU2 := hideIt hU2
    clear hU2
    have FM : PosAt U2 g3 a := by rw [HAe.out]; exact F7.pm
    have FL : PosAt U2 g4 b := F7.pl
    obtain ⟨e1, e2⟩ := F7.pa.rules
    obtain ⟨e3, e4⟩ := F7.pb.rules
    obtain ⟨e5, e6⟩ := FM.rules
    obtain ⟨e7, e8⟩ := FL.rules
    have hbE := F7.below
    have hTE := HT0.out.below hbE (Nat.le_refl _)
    have okA := HOA.out
    have okB := HOB.out
    clear F7 F5 FM FL
    have l0 : (0 : Int) ≤ (k : Int) := by omega
    have l1 : (k : Int) < 6 := by omega
    go_wp2_with fail
    go_region
    all_goals
      go_wp2_with (rw [HU2.out])
      refine (awakeD_any _ hTE).mono ?_
      rintro e w9 ⟨rfl, h1⟩
      have hbE := hbE.trans (h1.mono hbE.size)
      clear h1 e1 e2 e3 e4 e5 e6 e7 e8 hTE
      go_wp2
      go_ret
      exact ⟨rfl, hbE⟩


set_option maxRecDepth 100000 in
set_option maxHeartbeats 8000000 in
theorem dp_M1 (n : Nat → Int) (hn : PosOk n) (k : Nat) (k1 : 1 ≤ k) (k5 : k ≤ 5) (hx1 : n (72 + k) ≠ 0) (hx2 : n (72 + k) < 255) (w : World) (hT : Tab w) :
    Calls Tryd.prog 5 #[.agg (posA n), .int .u8 1, .int .u8 (k : Int)] w fun e w' => e = .returned (.bool true) ∧ Below w.heap.size w w' := by
  have hf : fitsB (1 : Nat) k = true := (fits_iff 1 k).2 ⟨by decide, k1, k5⟩
  have hix : poIx 1 k = 72 + k := by unfold poIx; omega
  have hk8 : kindAt (72 + k) = .u8 := by
    have := kind_pock 1 k (by decide) (by omega)
    rwa [show 66 + 6 * 1 + k = 72 + k by omega] at this
  obtain ⟨x0, x1⟩ := hn.u8 (72 + k) (by omega) hk8
  have hA : addB n 1 k = true := by
    unfold addB; rw [hf, hix, Bool.true_and]; exact decide_eq_true (by omega)
  have hB : takB n 1 k = true := by
    unfold takB; rw [hf, hix, Bool.true_and]; rw [beq_eq_false_iff_ne.2 (by omega)]; rfl
  have hAe : addN n 1 k = upd n (72 + k) (n (72 + k) + 1) := by unfold addN; rw [hA]; rw [if_pos rfl, hix]
  have hBe : takN n 1 k = upd n (72 + k) (n (72 + k) - 1) := by unfold takN; rw [hB]; rw [if_pos rfl, hix]
  have aok := add_ok hn 1 k
  have bok := tak_ok hn 1 k
  have HADD : ∀ W, Calls Tryd.prog 17 #[.agg (posA n), .int .u8 1, .int .u8 (k : Int)] W fun e w' => e = .returned (.agg (posA (addN n 1 k))) ∧ Below W.heap.size W w' := fun W => add_any n hn 1 k (by decide) (by omega) W
  have HTAK : ∀ W, Calls Tryd.prog 18 #[.agg (posA n), .int .u8 1, .int .u8 (k : Int)] W fun e w' => e = .returned (.tuple #[.agg (posA (takN n 1 k)), .bool (takB n 1 k)]) ∧ Below W.heap.size W w' := fun W => tak_any n hn 1 k (by decide) (by omega) W
  rw [hB] at HTAK
  obtain ⟨a, ha⟩ : ∃ a, addN n 1 k = a := ⟨_, rfl⟩
  obtain ⟨b, hbn⟩ : ∃ b, takN n 1 k = b := ⟨_, rfl⟩
  rw [ha] at HADD aok hAe
  rw [hbn] at HTAK bok hBe
  obtain ⟨x, hx⟩ : ∃ x, n (72 + k) = x := ⟨_, rfl⟩
  rw [hx] at x0 x1 hAe hBe hx1 hx2
  have HX0 := hideIt hx
  have HK8 := hideIt hk8
  have HAe := hideIt hAe
  have HBe := hideIt hBe
  have dx1 : decide (x < 255) = true := decide_eq_true (by omega)
  have dx2 : decide (0 < x) = true := decide_eq_true (by omega)
  have W1 : IntKind.u8.wrap (x + 1) = x + 1 := IntWalk.u8_in _ (by omega)
  have W2 : IntKind.u8.wrap (x - 1) = x - 1 := IntWalk.u8_in _ (by omega)
  clear hf hix hk8 hA hB hAe hBe ha hbn hx hx1 hx2
  have GA : Hid (∀ W, Calls Tryd.prog 17 #[.agg (posA n), .int .u8 1, .int .u8 (k : Int)] W fun e w' => e = .returned (.agg (posA a)) ∧ Below W.heap.size W w') := HADD
  have GB : Hid (∀ W, Calls Tryd.prog 18 #[.agg (posA n), .int .u8 1, .int .u8 (k : Int)] W fun e w' => e = .returned (.tuple #[.agg (posA b), .bool true]) ∧ Below W.heap.size W w') := HTAK
  have HOA := hideIt aok
  have HOB := hideIt bok
  have EA := eqP_self a
  have EB := eqP_self b
  clear HADD HTAK aok bok
  obtain ⟨X, hX⟩ : ∃ X, w.alloc (.cells (posA n) 31) = X := ⟨_, rfl⟩
  obtain ⟨p0, hb⟩ := box1 w n X hX
  have HX := hideIt hX
  have HT0 := hideIt hT
  have hzp := zeroPos
  obtain ⟨i0, r0⟩ := p0.rules
  clear hX hT
  go_enter Tryd.func5, Tryd.ntmps5
  go_wp2_with (rw [HX.out])
  refine (GA.out _).mono ?_
  rintro e Y ⟨rfl, h1⟩
  have pY := p0.below h1 p0.lt
  have hbY := hb.trans (h1.mono hb.size)
  clear h1 i0 r0 p0 hb
  obtain ⟨V, hV⟩ : ∃ V, (Y.alloc (.cells (posA zeroN) 31)).setRow Y.heap.size (posA a) = V := ⟨_, rfl⟩
  have hV2 : Y.alloc (.cells (posA a) 31) = V := by rw [← hV, World.setRow_alloc_new]
  have pV : PosAt V w.heap.size n := by rw [← hV2]; exact pY.alloc _
  have aV : PosAt V Y.heap.size a := by rw [← hV2]; exact PosAt.new Y _
  have hbV : Below w.heap.size w V := by rw [← hV2]; exact hbY.alloc hbY.size _
  obtain ⟨g1, hg⟩ : ∃ g, Y.heap.size = g := ⟨_, rfl⟩
  rw [hg] at aV
  have hgw1 : w.heap.size < g1 := by have := pY.lt; omega
  have HV := hideIt hV
  have HG := hideIt hg
  obtain ⟨i0, r0⟩ := pV.rules
  clear hV hV2 hg pY hbY
  go_wp2_with (rw [HV.out, HG.out])
  refine (GB.out _).mono ?_
  rintro e Z ⟨rfl, h1⟩
  have pZ := pV.below h1 pV.lt
  have aZ := aV.below h1 aV.lt
  have hbZ := hbV.trans (h1.mono hbV.size)
  clear h1 i0 r0 pV aV hbV HV HG
  obtain ⟨V2, hV⟩ : ∃ V, (Z.alloc (.cells (posA zeroN) 31)).setRow Z.heap.size (posA b) = V := ⟨_, rfl⟩
  have hV2 : Z.alloc (.cells (posA b) 31) = V2 := by rw [← hV, World.setRow_alloc_new]
  have pW : PosAt V2 w.heap.size n := by rw [← hV2]; exact pZ.alloc _
  have aW : PosAt V2 g1 a := by rw [← hV2]; exact aZ.alloc _
  have bW : PosAt V2 Z.heap.size b := by rw [← hV2]; exact PosAt.new Z _
  have hbW : Below w.heap.size w V2 := by rw [← hV2]; exact hbZ.alloc hbZ.size _
  obtain ⟨g2, hg⟩ : ∃ g, Z.heap.size = g := ⟨_, rfl⟩
  rw [hg] at bW
  have hg12 : w.heap.size < g1 ∧ g1 < g2 := ⟨by have := hgw1; omega, by have := aZ.lt; omega⟩
  have HV := hideIt hV
  have HG := hideIt hg
  obtain ⟨i0, r0⟩ := pW.rules
  clear hV hV2 hg pZ aZ hbZ
  go_upto_region 4 with (rw [HV.out, HG.out])
  clear HV HG
  go_cut [11, 12] (fun u11 u12 wx => ∃ g3 g4 : Nat, u11 = .pointer (some ⟨g3, 0, none⟩) ∧ u12 = .pointer (some ⟨g4, 0, none⟩) ∧ Five w g1 g2 g3 g4 n a b n n wx ∧ (w.heap.size < g1 ∧ g1 < g2 ∧ g2 < g3 ∧ g2 < g4 ∧ g3 ≠ g4))
  case first =>
    have q1 := pW.lt
    have q2 := aW.lt
    have q3 := bW.lt
    have q5 : V2.heap.size ≠ w.heap.size := by omega
    have q6 : V2.heap.size + 1 ≠ w.heap.size := by omega
    have q7 : V2.heap.size ≠ V2.heap.size + 1 := by omega
    have q8 : V2.heap.size + 1 ≠ V2.heap.size := by omega
    have hle : w.heap.size ≤ V2.heap.size := by omega
    have hle1 : w.heap.size ≤ V2.heap.size + 1 := by omega
    have t0 : PosAt V2.drew w.heap.size n := pW.drew
    have t1 : PosAt (V2.alloc (.cells (posA zeroN) 31)).drew w.heap.size n := (pW.alloc _).drew
    have t2 : PosAt ((V2.alloc (.cells (posA zeroN) 31)).alloc (.cells (posA zeroN) 31)).drew w.heap.size n := ((pW.alloc _).alloc _).drew
    have t3 : PosAt ((V2.alloc (.cells (posA zeroN) 31)).drew.setRow V2.heap.size (posA n)) w.heap.size n := t1.otherRow q5 _
    have t4 : PosAt (((V2.alloc (.cells (posA zeroN) 31)).drew.setRow V2.heap.size (posA n)).alloc (.cells (posA zeroN) 31)) w.heap.size n := t3.alloc _
    have t5 : PosAt (((V2.alloc (.cells (posA zeroN) 31)).alloc (.cells (posA zeroN) 31)).drew.setRow V2.heap.size (posA n)) w.heap.size n := t2.otherRow q5 _
    have t6 : PosAt (((V2.alloc (.cells (posA zeroN) 31)).alloc (.cells (posA zeroN) 31)).drew.setRow (V2.heap.size + 1) (posA n)) w.heap.size n := t2.otherRow q6 _
    have u1 : PosAt (V2.alloc (.cells (posA zeroN) 31)).drew V2.heap.size zeroN := (PosAt.new V2 _).drew
    have u2 : PosAt ((V2.alloc (.cells (posA zeroN) 31)).alloc (.cells (posA zeroN) 31)).drew V2.heap.size zeroN := ((PosAt.new V2 _).alloc _).drew
    have u3 : PosAt (((V2.alloc (.cells (posA zeroN) 31)).alloc (.cells (posA zeroN) 31)).drew.setRow (V2.heap.size + 1) (posA n)) V2.heap.size zeroN := u2.otherRow q8 _
    have x2 : PosAt ((V2.alloc (.cells (posA zeroN) 31)).alloc (.cells (posA zeroN) 31)).drew (V2.heap.size + 1) zeroN := (PosAt.new1 V2 _ _).drew
    have x3 : PosAt (((V2.alloc (.cells (posA zeroN) 31)).alloc (.cells (posA zeroN) 31)).drew.setRow V2.heap.size (posA n)) (V2.heap.size + 1) zeroN := x2.otherRow q7 _
    have x4 : PosAt (((V2.alloc (.cells (posA zeroN) 31)).drew.setRow V2.heap.size (posA n)).alloc (.cells (posA zeroN) 31)) (V2.heap.size + 1) zeroN := PosAt.newAt zeroN (by rw [setRow_sizeP]; simp)
    have a1 : PosAt (V2.alloc (.cells (posA zeroN) 31)).drew g1 a := (aW.alloc _).drew
    have a2 : PosAt ((V2.alloc (.cells (posA zeroN) 31)).alloc (.cells (posA zeroN) 31)).drew g1 a := ((aW.alloc _).alloc _).drew
    have b1 : PosAt (V2.alloc (.cells (posA zeroN) 31)).drew g2 b := (bW.alloc _).drew
    have b2 : PosAt ((V2.alloc (.cells (posA zeroN) 31)).alloc (.cells (posA zeroN) 31)).drew g2 b := ((bW.alloc _).alloc _).drew
    have hb1 : Below w.heap.size w (V2.alloc (.cells (posA zeroN) 31)).drew := (hbW.alloc hle _).drew
    have hb2 : Below w.heap.size w ((V2.alloc (.cells (posA zeroN) 31)).alloc (.cells (posA zeroN) 31)).drew := ((hbW.alloc hle _).alloc (by simp; omega) _).drew
    have r1 : V2.heap.size ≠ g1 := by omega
    have r2 : V2.heap.size + 1 ≠ g1 := by omega
    have r3 : V2.heap.size ≠ g2 := by omega
    have r4 : V2.heap.size + 1 ≠ g2 := by omega
    have FA : Five w g1 g2 V2.heap.size (V2.heap.size + 1) n a b n n ((((V2.alloc (.cells (posA zeroN) 31)).alloc (.cells (posA zeroN) 31)).drew.setRow V2.heap.size (posA n)).setRow (V2.heap.size + 1) (posA n)) := ⟨t5.otherRow q6 _, (a2.otherRow r1 _).otherRow r2 _, (b2.otherRow r3 _).otherRow r4 _, (u2.setRow n).otherRow q8 _, x3.setRow n, below_setRow (below_setRow hb2 hle _) hle1 _⟩
    have FB : Five w g1 g2 V2.heap.size (V2.heap.size + 1) n a b n n ((((V2.alloc (.cells (posA zeroN) 31)).alloc (.cells (posA zeroN) 31)).drew.setRow (V2.heap.size + 1) (posA n)).setRow V2.heap.size (posA n)) := ⟨t6.otherRow q5 _, (a2.otherRow r2 _).otherRow r1 _, (b2.otherRow r4 _).otherRow r3 _, u3.setRow n, (x2.setRow n).otherRow q7 _, below_setRow (below_setRow hb2 hle1 _) hle _⟩
    have FC : Five w g1 g2 V2.heap.size (V2.heap.size + 1) n a b n n ((((V2.alloc (.cells (posA zeroN) 31)).drew.setRow V2.heap.size (posA n)).alloc (.cells (posA zeroN) 31)).setRow (V2.heap.size + 1) (posA n)) := ⟨t4.otherRow q6 _, ((a1.otherRow r1 _).alloc _).otherRow r2 _, ((b1.otherRow r3 _).alloc _).otherRow r4 _, ((u1.setRow n).alloc _).otherRow q8 _, x4.setRow n, below_setRow ((below_setRow hb1 hle _).alloc (by rw [setRow_sizeP]; simp; omega) _) hle1 _⟩
    have GA' := Five.swap FA
    have GB' := Five.swap FB
    have GC := Five.swap FC
    obtain ⟨i0, s0⟩ := t0.rules
    obtain ⟨i1, s1⟩ := t1.rules
    obtain ⟨i2, s2⟩ := t2.rules
    obtain ⟨i3, s3⟩ := t3.rules
    obtain ⟨i4, s4⟩ := t4.rules
    obtain ⟨i5, s5⟩ := t5.rules
    obtain ⟨i6, s6⟩ := t6.rules
    obtain ⟨i7, s7⟩ := u1.rules
    obtain ⟨i8, s8⟩ := u2.rules
    obtain ⟨i9, s9⟩ := u3.rules
    obtain ⟨i10, s10⟩ := x2.rules
    obtain ⟨i11, s11⟩ := x3.rules
    obtain ⟨i12, s12⟩ := x4.rules
    have HFA := hideIt FA
    have HFB := hideIt FB
    have HFC := hideIt FC
    have HGA := hideIt GA'
    have HGB := hideIt GB'
    have HGC := hideIt GC
    clear FA FB FC GA' GB' GC t0 t1 t2 t3 t4 t5 t6 u1 u2 u3 x2 x3 x4 a1 a2 b1 b2 hb1 hb2
    go_region
    all_goals
      go_wp2_with fail
      go_meet
      first | exact ⟨_, _, rfl, rfl, HFA.out, by omega⟩ | exact ⟨_, _, rfl, rfl, HFB.out, by omega⟩ | exact ⟨_, _, rfl, rfl, HFC.out, by omega⟩ | exact ⟨_, _, rfl, rfl, HGA.out, by omega⟩ | exact ⟨_, _, rfl, rfl, HGB.out, by omega⟩ | exact ⟨_, _, rfl, rfl, HGC.out, by omega⟩
  case rest =>
    obtain ⟨g3, g4, rfl, rfl, F5, hord⟩ := hcut
    have cp : wc.cell? ⟨w.heap.size, 72 + k, none⟩ = some (.int .u8 x) := by rw [F5.own.cell (72 + k) (by omega), HK8.out, HX0.out]
    have cm : wc.cell? ⟨g3, 72 + k, none⟩ = some (.int .u8 x) := by rw [F5.pm.cell (72 + k) (by omega), HK8.out, HX0.out]
    have cl : wc.cell? ⟨g4, 72 + k, none⟩ = some (.int .u8 x) := by rw [F5.pl.cell (72 + k) (by omega), HK8.out, HX0.out]
    have fm := F5.pm.free (72 + k)
    have fl := F5.pl.free (72 + k)
    obtain ⟨o1, o2, o3, o4, o5⟩ := hord
    have n1 : ¬ g3 = w.heap.size := by omega
    have n2 : ¬ w.heap.size = g3 := by omega
    have n3 : ¬ g4 = w.heap.size := by omega
    have n4 : ¬ w.heap.size = g4 := by omega
    have n5 : ¬ g4 = g3 := fun e => o5 e.symm
    have n6 : ¬ g3 = g1 := by omega
    have n7 : ¬ g3 = g2 := by omega
    have n8 : ¬ g4 = g1 := by omega
    have n9 : ¬ g4 = g2 := by omega
    have hl3 : w.heap.size ≤ g3 := by omega
    have hl4 : w.heap.size ≤ g4 := by omega
    obtain ⟨U1, hU1⟩ : ∃ U, (wc.setCell ⟨g3, 72 + k, none⟩ (.int .u8 (x + 1))).drew = U := ⟨_, rfl⟩
    have F6 : Five w g1 g2 g3 g4 n a b a n U1 := by
      rw [← hU1, HAe.out]
      exact ⟨(F5.own.other n1 _).drew, by rw [← HAe.out]; exact (F5.pa.other n6 _).drew, (F5.pb.other n7 _).drew, (F5.pm.setP (72 + k) (x + 1) (k := .u8) HK8.out.symm).drew, (F5.pl.other (b := g3) (fun e => n5 e.symm) _).drew, (Below.setCell (p := ⟨g3, 72 + k, none⟩) F5.below hl3 _).drew⟩
    have cp1 : U1.cell? ⟨w.heap.size, 72 + k, none⟩ = some (.int .u8 x) := by rw [F6.own.cell (72 + k) (by omega), HK8.out, HX0.out]
    have cl1 : U1.cell? ⟨g4, 72 + k, none⟩ = some (.int .u8 x) := by rw [F6.pl.cell (72 + k) (by omega), HK8.out, HX0.out]
    have fl1 := F6.pl.free (72 + k)
    have HU1 := hideIt hU1
    clear hU1
    obtain ⟨U2, hU2⟩ : ∃ U, (U1.setCell ⟨g4, 72 + k, none⟩ (.int .u8 (x - 1))).drew = U := ⟨_, rfl⟩
    have F7 : Five w g1 g2 g3 g4 n a b a b U2 := by
      rw [← hU2, HBe.out]
      exact ⟨(F6.own.other n3 _).drew, (F6.pa.other n8 _).drew, by rw [← HBe.out]; exact (F6.pb.other n9 _).drew, (F6.pm.other n5 _).drew, (F6.pl.setP (72 + k) (x - 1) (k := .u8) HK8.out.symm).drew, (Below.setCell (p := ⟨g4, 72 + k, none⟩) F6.below hl4 _).drew⟩
    have HU2 := hideIt hU2
    clear hU2
    have FM : PosAt U2 g3 a := F7.pm
    have FL : PosAt U2 g4 b := F7.pl
    obtain ⟨e1, e2⟩ := F7.pa.rules
    obtain ⟨e3, e4⟩ := F7.pb.rules
    obtain ⟨e5, e6⟩ := FM.rules
    obtain ⟨e7, e8⟩ := FL.rules
    have hbE := F7.below
    have hTE := HT0.out.below hbE (Nat.le_refl _)
    have okA := HOA.out
    have okB := HOB.out
    clear F6 F7 F5 FM FL
    have l0 : (0 : Int) ≤ (k : Int) := by omega
    have l1 : (k : Int) < 6 := by omega
    go_wp2_with fail
    go_region
    all_goals
      go_wp2_with (rw [HU1.out])
      go_region
      all_goals
        go_wp2_with (rw [HU2.out])
        refine (awakeD_any _ hTE).mono ?_
        rintro e w9 ⟨rfl, h1⟩
        have hbE := hbE.trans (h1.mono hbE.size)
        clear h1 e1 e2 e3 e4 e5 e6 e7 e8 hTE
        go_wp2
        go_ret
        exact ⟨rfl, hbE⟩


set_option maxRecDepth 100000 in
set_option maxHeartbeats 8000000 in
theorem dp_Z1 (n : Nat → Int) (hn : PosOk n) (k : Nat) (k1 : 1 ≤ k) (k5 : k ≤ 5) (hx1 : n (72 + k) = 0) (w : World) (hT : Tab w) :
    Calls Tryd.prog 5 #[.agg (posA n), .int .u8 1, .int .u8 (k : Int)] w fun e w' => e = .returned (.bool true) ∧ Below w.heap.size w w' := by
  have hf : fitsB (1 : Nat) k = true := (fits_iff 1 k).2 ⟨by decide, k1, k5⟩
  have hix : poIx 1 k = 72 + k := by unfold poIx; omega
  have hk8 : kindAt (72 + k) = .u8 := by
    have := kind_pock 1 k (by decide) (by omega)
    rwa [show 66 + 6 * 1 + k = 72 + k by omega] at this
  obtain ⟨x0, x1⟩ := hn.u8 (72 + k) (by omega) hk8
  have hA : addB n 1 k = true := by
    unfold addB; rw [hf, hix, Bool.true_and]; exact decide_eq_true (by omega)
  have hB : takB n 1 k = false := by
    unfold takB; rw [hf, hix, Bool.true_and]; rw [beq_iff_eq.2 hx1]; rfl
  have hAe : addN n 1 k = upd n (72 + k) (n (72 + k) + 1) := by unfold addN; rw [hA]; rw [if_pos rfl, hix]
  have hBe : takN n 1 k = n := by unfold takN; rw [hB]; rfl
  have aok := add_ok hn 1 k
  have bok := tak_ok hn 1 k
  have HADD : ∀ W, Calls Tryd.prog 17 #[.agg (posA n), .int .u8 1, .int .u8 (k : Int)] W fun e w' => e = .returned (.agg (posA (addN n 1 k))) ∧ Below W.heap.size W w' := fun W => add_any n hn 1 k (by decide) (by omega) W
  have HTAK : ∀ W, Calls Tryd.prog 18 #[.agg (posA n), .int .u8 1, .int .u8 (k : Int)] W fun e w' => e = .returned (.tuple #[.agg (posA (takN n 1 k)), .bool (takB n 1 k)]) ∧ Below W.heap.size W w' := fun W => tak_any n hn 1 k (by decide) (by omega) W
  rw [hB] at HTAK
  obtain ⟨a, ha⟩ : ∃ a, addN n 1 k = a := ⟨_, rfl⟩
  obtain ⟨b, hbn⟩ : ∃ b, takN n 1 k = b := ⟨_, rfl⟩
  rw [ha] at HADD aok hAe
  rw [hbn] at HTAK bok hBe
  obtain ⟨x, hx⟩ : ∃ x, n (72 + k) = x := ⟨_, rfl⟩
  rw [hx] at x0 x1 hAe hx1
  have HX0 := hideIt hx
  have HK8 := hideIt hk8
  have HAe := hideIt hAe
  have HBe := hideIt hBe
  have dx1 : decide (x < 255) = true := decide_eq_true (by omega)
  have dx2 : decide (0 < x) = false := decide_eq_false (by omega)
  have W1 : IntKind.u8.wrap (x + 1) = x + 1 := IntWalk.u8_in _ (by omega)
  
  clear hf hix hk8 hA hB hAe hBe ha hbn hx hx1
  have GA : Hid (∀ W, Calls Tryd.prog 17 #[.agg (posA n), .int .u8 1, .int .u8 (k : Int)] W fun e w' => e = .returned (.agg (posA a)) ∧ Below W.heap.size W w') := HADD
  have GB : Hid (∀ W, Calls Tryd.prog 18 #[.agg (posA n), .int .u8 1, .int .u8 (k : Int)] W fun e w' => e = .returned (.tuple #[.agg (posA b), .bool false]) ∧ Below W.heap.size W w') := HTAK
  have HOA := hideIt aok
  have HOB := hideIt bok
  have EA := eqP_self a
  have EB := eqP_self b
  clear HADD HTAK aok bok
  obtain ⟨X, hX⟩ : ∃ X, w.alloc (.cells (posA n) 31) = X := ⟨_, rfl⟩
  obtain ⟨p0, hb⟩ := box1 w n X hX
  have HX := hideIt hX
  have HT0 := hideIt hT
  have hzp := zeroPos
  obtain ⟨i0, r0⟩ := p0.rules
  clear hX hT
  go_enter Tryd.func5, Tryd.ntmps5
  go_wp2_with (rw [HX.out])
  refine (GA.out _).mono ?_
  rintro e Y ⟨rfl, h1⟩
  have pY := p0.below h1 p0.lt
  have hbY := hb.trans (h1.mono hb.size)
  clear h1 i0 r0 p0 hb
  obtain ⟨V, hV⟩ : ∃ V, (Y.alloc (.cells (posA zeroN) 31)).setRow Y.heap.size (posA a) = V := ⟨_, rfl⟩
  have hV2 : Y.alloc (.cells (posA a) 31) = V := by rw [← hV, World.setRow_alloc_new]
  have pV : PosAt V w.heap.size n := by rw [← hV2]; exact pY.alloc _
  have aV : PosAt V Y.heap.size a := by rw [← hV2]; exact PosAt.new Y _
  have hbV : Below w.heap.size w V := by rw [← hV2]; exact hbY.alloc hbY.size _
  obtain ⟨g1, hg⟩ : ∃ g, Y.heap.size = g := ⟨_, rfl⟩
  rw [hg] at aV
  have hgw1 : w.heap.size < g1 := by have := pY.lt; omega
  have HV := hideIt hV
  have HG := hideIt hg
  obtain ⟨i0, r0⟩ := pV.rules
  clear hV hV2 hg pY hbY
  go_wp2_with (rw [HV.out, HG.out])
  refine (GB.out _).mono ?_
  rintro e Z ⟨rfl, h1⟩
  have pZ := pV.below h1 pV.lt
  have aZ := aV.below h1 aV.lt
  have hbZ := hbV.trans (h1.mono hbV.size)
  clear h1 i0 r0 pV aV hbV HV HG
  obtain ⟨V2, hV⟩ : ∃ V, (Z.alloc (.cells (posA zeroN) 31)).setRow Z.heap.size (posA b) = V := ⟨_, rfl⟩
  have hV2 : Z.alloc (.cells (posA b) 31) = V2 := by rw [← hV, World.setRow_alloc_new]
  have pW : PosAt V2 w.heap.size n := by rw [← hV2]; exact pZ.alloc _
  have aW : PosAt V2 g1 a := by rw [← hV2]; exact aZ.alloc _
  have bW : PosAt V2 Z.heap.size b := by rw [← hV2]; exact PosAt.new Z _
  have hbW : Below w.heap.size w V2 := by rw [← hV2]; exact hbZ.alloc hbZ.size _
  obtain ⟨g2, hg⟩ : ∃ g, Z.heap.size = g := ⟨_, rfl⟩
  rw [hg] at bW
  have hg12 : w.heap.size < g1 ∧ g1 < g2 := ⟨by have := hgw1; omega, by have := aZ.lt; omega⟩
  have HV := hideIt hV
  have HG := hideIt hg
  obtain ⟨i0, r0⟩ := pW.rules
  clear hV hV2 hg pZ aZ hbZ
  go_upto_region 4 with (rw [HV.out, HG.out])
  clear HV HG
  go_cut [11, 12] (fun u11 u12 wx => ∃ g3 g4 : Nat, u11 = .pointer (some ⟨g3, 0, none⟩) ∧ u12 = .pointer (some ⟨g4, 0, none⟩) ∧ Five w g1 g2 g3 g4 n a b n n wx ∧ (w.heap.size < g1 ∧ g1 < g2 ∧ g2 < g3 ∧ g2 < g4 ∧ g3 ≠ g4))
  case first =>
    have q1 := pW.lt
    have q2 := aW.lt
    have q3 := bW.lt
    have q5 : V2.heap.size ≠ w.heap.size := by omega
    have q6 : V2.heap.size + 1 ≠ w.heap.size := by omega
    have q7 : V2.heap.size ≠ V2.heap.size + 1 := by omega
    have q8 : V2.heap.size + 1 ≠ V2.heap.size := by omega
    have hle : w.heap.size ≤ V2.heap.size := by omega
    have hle1 : w.heap.size ≤ V2.heap.size + 1 := by omega
    have t0 : PosAt V2.drew w.heap.size n := pW.drew
    have t1 : PosAt (V2.alloc (.cells (posA zeroN) 31)).drew w.heap.size n := (pW.alloc _).drew
    have t2 : PosAt ((V2.alloc (.cells (posA zeroN) 31)).alloc (.cells (posA zeroN) 31)).drew w.heap.size n := ((pW.alloc _).alloc _).drew
    have t3 : PosAt ((V2.alloc (.cells (posA zeroN) 31)).drew.setRow V2.heap.size (posA n)) w.heap.size n := t1.otherRow q5 _
    have t4 : PosAt (((V2.alloc (.cells (posA zeroN) 31)).drew.setRow V2.heap.size (posA n)).alloc (.cells (posA zeroN) 31)) w.heap.size n := t3.alloc _
    have t5 : PosAt (((V2.alloc (.cells (posA zeroN) 31)).alloc (.cells (posA zeroN) 31)).drew.setRow V2.heap.size (posA n)) w.heap.size n := t2.otherRow q5 _
    have t6 : PosAt (((V2.alloc (.cells (posA zeroN) 31)).alloc (.cells (posA zeroN) 31)).drew.setRow (V2.heap.size + 1) (posA n)) w.heap.size n := t2.otherRow q6 _
    have u1 : PosAt (V2.alloc (.cells (posA zeroN) 31)).drew V2.heap.size zeroN := (PosAt.new V2 _).drew
    have u2 : PosAt ((V2.alloc (.cells (posA zeroN) 31)).alloc (.cells (posA zeroN) 31)).drew V2.heap.size zeroN := ((PosAt.new V2 _).alloc _).drew
    have u3 : PosAt (((V2.alloc (.cells (posA zeroN) 31)).alloc (.cells (posA zeroN) 31)).drew.setRow (V2.heap.size + 1) (posA n)) V2.heap.size zeroN := u2.otherRow q8 _
    have x2 : PosAt ((V2.alloc (.cells (posA zeroN) 31)).alloc (.cells (posA zeroN) 31)).drew (V2.heap.size + 1) zeroN := (PosAt.new1 V2 _ _).drew
    have x3 : PosAt (((V2.alloc (.cells (posA zeroN) 31)).alloc (.cells (posA zeroN) 31)).drew.setRow V2.heap.size (posA n)) (V2.heap.size + 1) zeroN := x2.otherRow q7 _
    have x4 : PosAt (((V2.alloc (.cells (posA zeroN) 31)).drew.setRow V2.heap.size (posA n)).alloc (.cells (posA zeroN) 31)) (V2.heap.size + 1) zeroN := PosAt.newAt zeroN (by rw [setRow_sizeP]; simp)
    have a1 : PosAt (V2.alloc (.cells (posA zeroN) 31)).drew g1 a := (aW.alloc _).drew
    have a2 : PosAt ((V2.alloc (.cells (posA zeroN) 31)).alloc (.cells (posA zeroN) 31)).drew g1 a := ((aW.alloc _).alloc _).drew
    have b1 : PosAt (V2.alloc (.cells (posA zeroN) 31)).drew g2 b := (bW.alloc _).drew
    have b2 : PosAt ((V2.alloc (.cells (posA zeroN) 31)).alloc (.cells (posA zeroN) 31)).drew g2 b := ((bW.alloc _).alloc _).drew
    have hb1 : Below w.heap.size w (V2.alloc (.cells (posA zeroN) 31)).drew := (hbW.alloc hle _).drew
    have hb2 : Below w.heap.size w ((V2.alloc (.cells (posA zeroN) 31)).alloc (.cells (posA zeroN) 31)).drew := ((hbW.alloc hle _).alloc (by simp; omega) _).drew
    have r1 : V2.heap.size ≠ g1 := by omega
    have r2 : V2.heap.size + 1 ≠ g1 := by omega
    have r3 : V2.heap.size ≠ g2 := by omega
    have r4 : V2.heap.size + 1 ≠ g2 := by omega
    have FA : Five w g1 g2 V2.heap.size (V2.heap.size + 1) n a b n n ((((V2.alloc (.cells (posA zeroN) 31)).alloc (.cells (posA zeroN) 31)).drew.setRow V2.heap.size (posA n)).setRow (V2.heap.size + 1) (posA n)) := ⟨t5.otherRow q6 _, (a2.otherRow r1 _).otherRow r2 _, (b2.otherRow r3 _).otherRow r4 _, (u2.setRow n).otherRow q8 _, x3.setRow n, below_setRow (below_setRow hb2 hle _) hle1 _⟩
    have FB : Five w g1 g2 V2.heap.size (V2.heap.size + 1) n a b n n ((((V2.alloc (.cells (posA zeroN) 31)).alloc (.cells (posA zeroN) 31)).drew.setRow (V2.heap.size + 1) (posA n)).setRow V2.heap.size (posA n)) := ⟨t6.otherRow q5 _, (a2.otherRow r2 _).otherRow r1 _, (b2.otherRow r4 _).otherRow r3 _, u3.setRow n, (x2.setRow n).otherRow q7 _, below_setRow (below_setRow hb2 hle1 _) hle _⟩
    have FC : Five w g1 g2 V2.heap.size (V2.heap.size + 1) n a b n n ((((V2.alloc (.cells (posA zeroN) 31)).drew.setRow V2.heap.size (posA n)).alloc (.cells (posA zeroN) 31)).setRow (V2.heap.size + 1) (posA n)) := ⟨t4.otherRow q6 _, ((a1.otherRow r1 _).alloc _).otherRow r2 _, ((b1.otherRow r3 _).alloc _).otherRow r4 _, ((u1.setRow n).alloc _).otherRow q8 _, x4.setRow n, below_setRow ((below_setRow hb1 hle _).alloc (by rw [setRow_sizeP]; simp; omega) _) hle1 _⟩
    have GA' := Five.swap FA
    have GB' := Five.swap FB
    have GC := Five.swap FC
    obtain ⟨i0, s0⟩ := t0.rules
    obtain ⟨i1, s1⟩ := t1.rules
    obtain ⟨i2, s2⟩ := t2.rules
    obtain ⟨i3, s3⟩ := t3.rules
    obtain ⟨i4, s4⟩ := t4.rules
    obtain ⟨i5, s5⟩ := t5.rules
    obtain ⟨i6, s6⟩ := t6.rules
    obtain ⟨i7, s7⟩ := u1.rules
    obtain ⟨i8, s8⟩ := u2.rules
    obtain ⟨i9, s9⟩ := u3.rules
    obtain ⟨i10, s10⟩ := x2.rules
    obtain ⟨i11, s11⟩ := x3.rules
    obtain ⟨i12, s12⟩ := x4.rules
    have HFA := hideIt FA
    have HFB := hideIt FB
    have HFC := hideIt FC
    have HGA := hideIt GA'
    have HGB := hideIt GB'
    have HGC := hideIt GC
    clear FA FB FC GA' GB' GC t0 t1 t2 t3 t4 t5 t6 u1 u2 u3 x2 x3 x4 a1 a2 b1 b2 hb1 hb2
    go_region
    all_goals
      go_wp2_with fail
      go_meet
      first | exact ⟨_, _, rfl, rfl, HFA.out, by omega⟩ | exact ⟨_, _, rfl, rfl, HFB.out, by omega⟩ | exact ⟨_, _, rfl, rfl, HFC.out, by omega⟩ | exact ⟨_, _, rfl, rfl, HGA.out, by omega⟩ | exact ⟨_, _, rfl, rfl, HGB.out, by omega⟩ | exact ⟨_, _, rfl, rfl, HGC.out, by omega⟩
  case rest =>
    obtain ⟨g3, g4, rfl, rfl, F5, hord⟩ := hcut
    have cp : wc.cell? ⟨w.heap.size, 72 + k, none⟩ = some (.int .u8 x) := by rw [F5.own.cell (72 + k) (by omega), HK8.out, HX0.out]
    have cm : wc.cell? ⟨g3, 72 + k, none⟩ = some (.int .u8 x) := by rw [F5.pm.cell (72 + k) (by omega), HK8.out, HX0.out]
    have cl : wc.cell? ⟨g4, 72 + k, none⟩ = some (.int .u8 x) := by rw [F5.pl.cell (72 + k) (by omega), HK8.out, HX0.out]
    have fm := F5.pm.free (72 + k)
    have fl := F5.pl.free (72 + k)
    obtain ⟨o1, o2, o3, o4, o5⟩ := hord
    have n1 : ¬ g3 = w.heap.size := by omega
    have n2 : ¬ w.heap.size = g3 := by omega
    have n3 : ¬ g4 = w.heap.size := by omega
    have n4 : ¬ w.heap.size = g4 := by omega
    have n5 : ¬ g4 = g3 := fun e => o5 e.symm
    have n6 : ¬ g3 = g1 := by omega
    have n7 : ¬ g3 = g2 := by omega
    have n8 : ¬ g4 = g1 := by omega
    have n9 : ¬ g4 = g2 := by omega
    have hl3 : w.heap.size ≤ g3 := by omega
    have hl4 : w.heap.size ≤ g4 := by omega
    obtain ⟨U1, hU1⟩ : ∃ U, (wc.setCell ⟨g3, 72 + k, none⟩ (.int .u8 (x + 1))).drew = U := ⟨_, rfl⟩
    have F6 : Five w g1 g2 g3 g4 n a b a n U1 := by
      rw [← hU1, HAe.out]
      exact ⟨(F5.own.other n1 _).drew, by rw [← HAe.out]; exact (F5.pa.other n6 _).drew, (F5.pb.other n7 _).drew, (F5.pm.setP (72 + k) (x + 1) (k := .u8) HK8.out.symm).drew, (F5.pl.other (b := g3) (fun e => n5 e.symm) _).drew, (Below.setCell (p := ⟨g3, 72 + k, none⟩) F5.below hl3 _).drew⟩
    have cp1 : U1.cell? ⟨w.heap.size, 72 + k, none⟩ = some (.int .u8 x) := by rw [F6.own.cell (72 + k) (by omega), HK8.out, HX0.out]
    have cl1 : U1.cell? ⟨g4, 72 + k, none⟩ = some (.int .u8 x) := by rw [F6.pl.cell (72 + k) (by omega), HK8.out, HX0.out]
    have fl1 := F6.pl.free (72 + k)
    have HU1 := hideIt hU1
    clear hU1
    have FM : PosAt U1 g3 a := F6.pm
    have FL : PosAt U1 g4 b := by rw [HBe.out]; exact F6.pl
    obtain ⟨e1, e2⟩ := F6.pa.rules
    obtain ⟨e3, e4⟩ := F6.pb.rules
    obtain ⟨e5, e6⟩ := FM.rules
    obtain ⟨e7, e8⟩ := FL.rules
    have hbE := F6.below
    have hTE := HT0.out.below hbE (Nat.le_refl _)
    have okA := HOA.out
    have okB := HOB.out
    clear F6 F5 FM FL
    have l0 : (0 : Int) ≤ (k : Int) := by omega
    have l1 : (k : Int) < 6 := by omega
    go_wp2_with fail
    go_region
    all_goals
      go_wp2_with (rw [HU1.out])
      refine (awakeD_any _ hTE).mono ?_
      rintro e w9 ⟨rfl, h1⟩
      have hbE := hbE.trans (h1.mono hbE.size)
      clear h1 e1 e2 e3 e4 e5 e6 e7 e8 hTE
      go_wp2
      go_ret
      exact ⟨rfl, hbE⟩


set_option maxRecDepth 100000 in
set_option maxHeartbeats 8000000 in
theorem dp_F1 (n : Nat → Int) (hn : PosOk n) (k : Nat) (k1 : 1 ≤ k) (k5 : k ≤ 5) (hx1 : n (72 + k) = 255) (w : World) (hT : Tab w) :
    Calls Tryd.prog 5 #[.agg (posA n), .int .u8 1, .int .u8 (k : Int)] w fun e w' => e = .returned (.bool true) ∧ Below w.heap.size w w' := by
  have hf : fitsB (1 : Nat) k = true := (fits_iff 1 k).2 ⟨by decide, k1, k5⟩
  have hix : poIx 1 k = 72 + k := by unfold poIx; omega
  have hk8 : kindAt (72 + k) = .u8 := by
    have := kind_pock 1 k (by decide) (by omega)
    rwa [show 66 + 6 * 1 + k = 72 + k by omega] at this
  obtain ⟨x0, x1⟩ := hn.u8 (72 + k) (by omega) hk8
  have hA : addB n 1 k = false := by
    unfold addB; rw [hf, hix, Bool.true_and]; exact decide_eq_false (by omega)
  have hB : takB n 1 k = true := by
    unfold takB; rw [hf, hix, Bool.true_and]; rw [beq_eq_false_iff_ne.2 (by omega)]; rfl
  have hAe : addN n 1 k = n := by unfold addN; rw [hA]; rfl
  have hBe : takN n 1 k = upd n (72 + k) (n (72 + k) - 1) := by unfold takN; rw [hB]; rw [if_pos rfl, hix]
  have aok := add_ok hn 1 k
  have bok := tak_ok hn 1 k
  have HADD : ∀ W, Calls Tryd.prog 17 #[.agg (posA n), .int .u8 1, .int .u8 (k : Int)] W fun e w' => e = .returned (.agg (posA (addN n 1 k))) ∧ Below W.heap.size W w' := fun W => add_any n hn 1 k (by decide) (by omega) W
  have HTAK : ∀ W, Calls Tryd.prog 18 #[.agg (posA n), .int .u8 1, .int .u8 (k : Int)] W fun e w' => e = .returned (.tuple #[.agg (posA (takN n 1 k)), .bool (takB n 1 k)]) ∧ Below W.heap.size W w' := fun W => tak_any n hn 1 k (by decide) (by omega) W
  rw [hB] at HTAK
  obtain ⟨a, ha⟩ : ∃ a, addN n 1 k = a := ⟨_, rfl⟩
  obtain ⟨b, hbn⟩ : ∃ b, takN n 1 k = b := ⟨_, rfl⟩
  rw [ha] at HADD aok hAe
  rw [hbn] at HTAK bok hBe
  obtain ⟨x, hx⟩ : ∃ x, n (72 + k) = x := ⟨_, rfl⟩
  rw [hx] at x0 x1 hBe hx1
  have HX0 := hideIt hx
  have HK8 := hideIt hk8
  have HAe := hideIt hAe
  have HBe := hideIt hBe
  have dx1 : decide (x < 255) = false := decide_eq_false (by omega)
  have dx2 : decide (0 < x) = true := decide_eq_true (by omega)
  
  have W2 : IntKind.u8.wrap (x - 1) = x - 1 := IntWalk.u8_in _ (by omega)
  clear hf hix hk8 hA hB hAe hBe ha hbn hx hx1
  have GA : Hid (∀ W, Calls Tryd.prog 17 #[.agg (posA n), .int .u8 1, .int .u8 (k : Int)] W fun e w' => e = .returned (.agg (posA a)) ∧ Below W.heap.size W w') := HADD
  have GB : Hid (∀ W, Calls Tryd.prog 18 #[.agg (posA n), .int .u8 1, .int .u8 (k : Int)] W fun e w' => e = .returned (.tuple #[.agg (posA b), .bool true]) ∧ Below W.heap.size W w') := HTAK
  have HOA := hideIt aok
  have HOB := hideIt bok
  have EA := eqP_self a
  have EB := eqP_self b
  clear HADD HTAK aok bok
  obtain ⟨X, hX⟩ : ∃ X, w.alloc (.cells (posA n) 31) = X := ⟨_, rfl⟩
  obtain ⟨p0, hb⟩ := box1 w n X hX
  have HX := hideIt hX
  have HT0 := hideIt hT
  have hzp := zeroPos
  obtain ⟨i0, r0⟩ := p0.rules
  clear hX hT
  go_enter Tryd.func5, Tryd.ntmps5
  go_wp2_with (rw [HX.out])
  refine (GA.out _).mono ?_
  rintro e Y ⟨rfl, h1⟩
  have pY := p0.below h1 p0.lt
  have hbY := hb.trans (h1.mono hb.size)
  clear h1 i0 r0 p0 hb
  obtain ⟨V, hV⟩ : ∃ V, (Y.alloc (.cells (posA zeroN) 31)).setRow Y.heap.size (posA a) = V := ⟨_, rfl⟩
  have hV2 : Y.alloc (.cells (posA a) 31) = V := by rw [← hV, World.setRow_alloc_new]
  have pV : PosAt V w.heap.size n := by rw [← hV2]; exact pY.alloc _
  have aV : PosAt V Y.heap.size a := by rw [← hV2]; exact PosAt.new Y _
  have hbV : Below w.heap.size w V := by rw [← hV2]; exact hbY.alloc hbY.size _
  obtain ⟨g1, hg⟩ : ∃ g, Y.heap.size = g := ⟨_, rfl⟩
  rw [hg] at aV
  have hgw1 : w.heap.size < g1 := by have := pY.lt; omega
  have HV := hideIt hV
  have HG := hideIt hg
  obtain ⟨i0, r0⟩ := pV.rules
  clear hV hV2 hg pY hbY
  go_wp2_with (rw [HV.out, HG.out])
  refine (GB.out _).mono ?_
  rintro e Z ⟨rfl, h1⟩
  have pZ := pV.below h1 pV.lt
  have aZ := aV.below h1 aV.lt
  have hbZ := hbV.trans (h1.mono hbV.size)
  clear h1 i0 r0 pV aV hbV HV HG
  obtain ⟨V2, hV⟩ : ∃ V, (Z.alloc (.cells (posA zeroN) 31)).setRow Z.heap.size (posA b) = V := ⟨_, rfl⟩
  have hV2 : Z.alloc (.cells (posA b) 31) = V2 := by rw [← hV, World.setRow_alloc_new]
  have pW : PosAt V2 w.heap.size n := by rw [← hV2]; exact pZ.alloc _
  have aW : PosAt V2 g1 a := by rw [← hV2]; exact aZ.alloc _
  have bW : PosAt V2 Z.heap.size b := by rw [← hV2]; exact PosAt.new Z _
  have hbW : Below w.heap.size w V2 := by rw [← hV2]; exact hbZ.alloc hbZ.size _
  obtain ⟨g2, hg⟩ : ∃ g, Z.heap.size = g := ⟨_, rfl⟩
  rw [hg] at bW
  have hg12 : w.heap.size < g1 ∧ g1 < g2 := ⟨by have := hgw1; omega, by have := aZ.lt; omega⟩
  have HV := hideIt hV
  have HG := hideIt hg
  obtain ⟨i0, r0⟩ := pW.rules
  clear hV hV2 hg pZ aZ hbZ
  go_upto_region 4 with (rw [HV.out, HG.out])
  clear HV HG
  go_cut [11, 12] (fun u11 u12 wx => ∃ g3 g4 : Nat, u11 = .pointer (some ⟨g3, 0, none⟩) ∧ u12 = .pointer (some ⟨g4, 0, none⟩) ∧ Five w g1 g2 g3 g4 n a b n n wx ∧ (w.heap.size < g1 ∧ g1 < g2 ∧ g2 < g3 ∧ g2 < g4 ∧ g3 ≠ g4))
  case first =>
    have q1 := pW.lt
    have q2 := aW.lt
    have q3 := bW.lt
    have q5 : V2.heap.size ≠ w.heap.size := by omega
    have q6 : V2.heap.size + 1 ≠ w.heap.size := by omega
    have q7 : V2.heap.size ≠ V2.heap.size + 1 := by omega
    have q8 : V2.heap.size + 1 ≠ V2.heap.size := by omega
    have hle : w.heap.size ≤ V2.heap.size := by omega
    have hle1 : w.heap.size ≤ V2.heap.size + 1 := by omega
    have t0 : PosAt V2.drew w.heap.size n := pW.drew
    have t1 : PosAt (V2.alloc (.cells (posA zeroN) 31)).drew w.heap.size n := (pW.alloc _).drew
    have t2 : PosAt ((V2.alloc (.cells (posA zeroN) 31)).alloc (.cells (posA zeroN) 31)).drew w.heap.size n := ((pW.alloc _).alloc _).drew
    have t3 : PosAt ((V2.alloc (.cells (posA zeroN) 31)).drew.setRow V2.heap.size (posA n)) w.heap.size n := t1.otherRow q5 _
    have t4 : PosAt (((V2.alloc (.cells (posA zeroN) 31)).drew.setRow V2.heap.size (posA n)).alloc (.cells (posA zeroN) 31)) w.heap.size n := t3.alloc _
    have t5 : PosAt (((V2.alloc (.cells (posA zeroN) 31)).alloc (.cells (posA zeroN) 31)).drew.setRow V2.heap.size (posA n)) w.heap.size n := t2.otherRow q5 _
    have t6 : PosAt (((V2.alloc (.cells (posA zeroN) 31)).alloc (.cells (posA zeroN) 31)).drew.setRow (V2.heap.size + 1) (posA n)) w.heap.size n := t2.otherRow q6 _
    have u1 : PosAt (V2.alloc (.cells (posA zeroN) 31)).drew V2.heap.size zeroN := (PosAt.new V2 _).drew
    have u2 : PosAt ((V2.alloc (.cells (posA zeroN) 31)).alloc (.cells (posA zeroN) 31)).drew V2.heap.size zeroN := ((PosAt.new V2 _).alloc _).drew
    have u3 : PosAt (((V2.alloc (.cells (posA zeroN) 31)).alloc (.cells (posA zeroN) 31)).drew.setRow (V2.heap.size + 1) (posA n)) V2.heap.size zeroN := u2.otherRow q8 _
    have x2 : PosAt ((V2.alloc (.cells (posA zeroN) 31)).alloc (.cells (posA zeroN) 31)).drew (V2.heap.size + 1) zeroN := (PosAt.new1 V2 _ _).drew
    have x3 : PosAt (((V2.alloc (.cells (posA zeroN) 31)).alloc (.cells (posA zeroN) 31)).drew.setRow V2.heap.size (posA n)) (V2.heap.size + 1) zeroN := x2.otherRow q7 _
    have x4 : PosAt (((V2.alloc (.cells (posA zeroN) 31)).drew.setRow V2.heap.size (posA n)).alloc (.cells (posA zeroN) 31)) (V2.heap.size + 1) zeroN := PosAt.newAt zeroN (by rw [setRow_sizeP]; simp)
    have a1 : PosAt (V2.alloc (.cells (posA zeroN) 31)).drew g1 a := (aW.alloc _).drew
    have a2 : PosAt ((V2.alloc (.cells (posA zeroN) 31)).alloc (.cells (posA zeroN) 31)).drew g1 a := ((aW.alloc _).alloc _).drew
    have b1 : PosAt (V2.alloc (.cells (posA zeroN) 31)).drew g2 b := (bW.alloc _).drew
    have b2 : PosAt ((V2.alloc (.cells (posA zeroN) 31)).alloc (.cells (posA zeroN) 31)).drew g2 b := ((bW.alloc _).alloc _).drew
    have hb1 : Below w.heap.size w (V2.alloc (.cells (posA zeroN) 31)).drew := (hbW.alloc hle _).drew
    have hb2 : Below w.heap.size w ((V2.alloc (.cells (posA zeroN) 31)).alloc (.cells (posA zeroN) 31)).drew := ((hbW.alloc hle _).alloc (by simp; omega) _).drew
    have r1 : V2.heap.size ≠ g1 := by omega
    have r2 : V2.heap.size + 1 ≠ g1 := by omega
    have r3 : V2.heap.size ≠ g2 := by omega
    have r4 : V2.heap.size + 1 ≠ g2 := by omega
    have FA : Five w g1 g2 V2.heap.size (V2.heap.size + 1) n a b n n ((((V2.alloc (.cells (posA zeroN) 31)).alloc (.cells (posA zeroN) 31)).drew.setRow V2.heap.size (posA n)).setRow (V2.heap.size + 1) (posA n)) := ⟨t5.otherRow q6 _, (a2.otherRow r1 _).otherRow r2 _, (b2.otherRow r3 _).otherRow r4 _, (u2.setRow n).otherRow q8 _, x3.setRow n, below_setRow (below_setRow hb2 hle _) hle1 _⟩
    have FB : Five w g1 g2 V2.heap.size (V2.heap.size + 1) n a b n n ((((V2.alloc (.cells (posA zeroN) 31)).alloc (.cells (posA zeroN) 31)).drew.setRow (V2.heap.size + 1) (posA n)).setRow V2.heap.size (posA n)) := ⟨t6.otherRow q5 _, (a2.otherRow r2 _).otherRow r1 _, (b2.otherRow r4 _).otherRow r3 _, u3.setRow n, (x2.setRow n).otherRow q7 _, below_setRow (below_setRow hb2 hle1 _) hle _⟩
    have FC : Five w g1 g2 V2.heap.size (V2.heap.size + 1) n a b n n ((((V2.alloc (.cells (posA zeroN) 31)).drew.setRow V2.heap.size (posA n)).alloc (.cells (posA zeroN) 31)).setRow (V2.heap.size + 1) (posA n)) := ⟨t4.otherRow q6 _, ((a1.otherRow r1 _).alloc _).otherRow r2 _, ((b1.otherRow r3 _).alloc _).otherRow r4 _, ((u1.setRow n).alloc _).otherRow q8 _, x4.setRow n, below_setRow ((below_setRow hb1 hle _).alloc (by rw [setRow_sizeP]; simp; omega) _) hle1 _⟩
    have GA' := Five.swap FA
    have GB' := Five.swap FB
    have GC := Five.swap FC
    obtain ⟨i0, s0⟩ := t0.rules
    obtain ⟨i1, s1⟩ := t1.rules
    obtain ⟨i2, s2⟩ := t2.rules
    obtain ⟨i3, s3⟩ := t3.rules
    obtain ⟨i4, s4⟩ := t4.rules
    obtain ⟨i5, s5⟩ := t5.rules
    obtain ⟨i6, s6⟩ := t6.rules
    obtain ⟨i7, s7⟩ := u1.rules
    obtain ⟨i8, s8⟩ := u2.rules
    obtain ⟨i9, s9⟩ := u3.rules
    obtain ⟨i10, s10⟩ := x2.rules
    obtain ⟨i11, s11⟩ := x3.rules
    obtain ⟨i12, s12⟩ := x4.rules
    have HFA := hideIt FA
    have HFB := hideIt FB
    have HFC := hideIt FC
    have HGA := hideIt GA'
    have HGB := hideIt GB'
    have HGC := hideIt GC
    clear FA FB FC GA' GB' GC t0 t1 t2 t3 t4 t5 t6 u1 u2 u3 x2 x3 x4 a1 a2 b1 b2 hb1 hb2
    go_region
    all_goals
      go_wp2_with fail
      go_meet
      first | exact ⟨_, _, rfl, rfl, HFA.out, by omega⟩ | exact ⟨_, _, rfl, rfl, HFB.out, by omega⟩ | exact ⟨_, _, rfl, rfl, HFC.out, by omega⟩ | exact ⟨_, _, rfl, rfl, HGA.out, by omega⟩ | exact ⟨_, _, rfl, rfl, HGB.out, by omega⟩ | exact ⟨_, _, rfl, rfl, HGC.out, by omega⟩
  case rest =>
    obtain ⟨g3, g4, rfl, rfl, F5, hord⟩ := hcut
    have cp : wc.cell? ⟨w.heap.size, 72 + k, none⟩ = some (.int .u8 x) := by rw [F5.own.cell (72 + k) (by omega), HK8.out, HX0.out]
    have cm : wc.cell? ⟨g3, 72 + k, none⟩ = some (.int .u8 x) := by rw [F5.pm.cell (72 + k) (by omega), HK8.out, HX0.out]
    have cl : wc.cell? ⟨g4, 72 + k, none⟩ = some (.int .u8 x) := by rw [F5.pl.cell (72 + k) (by omega), HK8.out, HX0.out]
    have fm := F5.pm.free (72 + k)
    have fl := F5.pl.free (72 + k)
    obtain ⟨o1, o2, o3, o4, o5⟩ := hord
    have n1 : ¬ g3 = w.heap.size := by omega
    have n2 : ¬ w.heap.size = g3 := by omega
    have n3 : ¬ g4 = w.heap.size := by omega
    have n4 : ¬ w.heap.size = g4 := by omega
    have n5 : ¬ g4 = g3 := fun e => o5 e.symm
    have n6 : ¬ g3 = g1 := by omega
    have n7 : ¬ g3 = g2 := by omega
    have n8 : ¬ g4 = g1 := by omega
    have n9 : ¬ g4 = g2 := by omega
    have hl3 : w.heap.size ≤ g3 := by omega
    have hl4 : w.heap.size ≤ g4 := by omega
    obtain ⟨U2, hU2⟩ : ∃ U, (wc.setCell ⟨g4, 72 + k, none⟩ (.int .u8 (x - 1))).drew = U := ⟨_, rfl⟩
    have F7 : Five w g1 g2 g3 g4 n a b n b U2 := by
      rw [← hU2, HBe.out]
      exact ⟨(F5.own.other n3 _).drew, (F5.pa.other n8 _).drew, by rw [← HBe.out]; exact (F5.pb.other n9 _).drew, (F5.pm.other n5 _).drew, (F5.pl.setP (72 + k) (x - 1) (k := .u8) HK8.out.symm).drew, (Below.setCell (p := ⟨g4, 72 + k, none⟩) F5.below hl4 _).drew⟩
    have HU2 := hideIt hU2
    clear hU2
    have FM : PosAt U2 g3 a := by rw [HAe.out]; exact F7.pm
    have FL : PosAt U2 g4 b := F7.pl
    obtain ⟨e1, e2⟩ := F7.pa.rules
    obtain ⟨e3, e4⟩ := F7.pb.rules
    obtain ⟨e5, e6⟩ := FM.rules
    obtain ⟨e7, e8⟩ := FL.rules
    have hbE := F7.below
    have hTE := HT0.out.below hbE (Nat.le_refl _)
    have okA := HOA.out
    have okB := HOB.out
    clear F7 F5 FM FL
    have l0 : (0 : Int) ≤ (k : Int) := by omega
    have l1 : (k : Int) < 6 := by omega
    go_wp2_with fail
    go_region
    all_goals
      go_wp2_with (rw [HU2.out])
      refine (awakeD_any _ hTE).mono ?_
      rintro e w9 ⟨rfl, h1⟩
      have hbE := hbE.trans (h1.mono hbE.size)
      clear h1 e1 e2 e3 e4 e5 e6 e7 e8 hTE
      go_wp2
      go_ret
      exact ⟨rfl, hbE⟩


set_option maxRecDepth 100000 in
set_option maxHeartbeats 8000000 in
theorem dp_noC (n : Nat → Int) (hn : PosOk n) (c k : Nat) (c255 : c ≤ 255) (k255 : k ≤ 255) (h : 2 ≤ c) (w : World) (hT : Tab w) :
    Calls Tryd.prog 5 #[.agg (posA n), .int .u8 (c : Int), .int .u8 (k : Int)] w fun e w' => e = .returned (.bool true) ∧ Below w.heap.size w w' := by
  have hf : fitsB (c : Int) k = false := by
    cases h2 : fitsB (c : Int) k with
    | false => rfl
    | true => rw [fits_iff] at h2; omega
  have hA : addB n c k = false := by unfold addB; rw [hf]; rfl
  have hB : takB n c k = false := by unfold takB; rw [hf]; rfl
  have hAe : addN n c k = n := by unfold addN; rw [hA]; rfl
  have hBe : takN n c k = n := by unfold takN; rw [hB]; rfl
  have aok := add_ok hn c k
  have bok := tak_ok hn c k
  have HADD : ∀ W, Calls Tryd.prog 17 #[.agg (posA n), .int .u8 (c : Int), .int .u8 (k : Int)] W fun e w' => e = .returned (.agg (posA (addN n c k))) ∧ Below W.heap.size W w' := fun W => add_any n hn c k (by omega) (by omega) W
  have HTAK : ∀ W, Calls Tryd.prog 18 #[.agg (posA n), .int .u8 (c : Int), .int .u8 (k : Int)] W fun e w' => e = .returned (.tuple #[.agg (posA (takN n c k)), .bool (takB n c k)]) ∧ Below W.heap.size W w' := fun W => tak_any n hn c k (by omega) (by omega) W
  rw [hB] at HTAK
  obtain ⟨a, ha⟩ : ∃ a, addN n c k = a := ⟨_, rfl⟩
  obtain ⟨b, hbn⟩ : ∃ b, takN n c k = b := ⟨_, rfl⟩
  rw [ha] at HADD aok hAe
  rw [hbn] at HTAK bok hBe
  have HAe := hideIt hAe
  have HBe := hideIt hBe
  have d1 : decide ((c : Int) < 2) = false := decide_eq_false (by omega)
  clear hf hA hB hAe hBe ha hbn h
  have GA : Hid (∀ W, Calls Tryd.prog 17 #[.agg (posA n), .int .u8 (c : Int), .int .u8 (k : Int)] W fun e w' => e = .returned (.agg (posA a)) ∧ Below W.heap.size W w') := HADD
  have GB : Hid (∀ W, Calls Tryd.prog 18 #[.agg (posA n), .int .u8 (c : Int), .int .u8 (k : Int)] W fun e w' => e = .returned (.tuple #[.agg (posA b), .bool false]) ∧ Below W.heap.size W w') := HTAK
  have HOA := hideIt aok
  have HOB := hideIt bok
  have EA := eqP_self a
  have EB := eqP_self b
  clear HADD HTAK aok bok
  obtain ⟨X, hX⟩ : ∃ X, w.alloc (.cells (posA n) 31) = X := ⟨_, rfl⟩
  obtain ⟨p0, hb⟩ := box1 w n X hX
  have HX := hideIt hX
  have HT0 := hideIt hT
  have hzp := zeroPos
  obtain ⟨i0, r0⟩ := p0.rules
  clear hX hT
  go_enter Tryd.func5, Tryd.ntmps5
  go_wp2_with (rw [HX.out])
  refine (GA.out _).mono ?_
  rintro e Y ⟨rfl, h1⟩
  have pY := p0.below h1 p0.lt
  have hbY := hb.trans (h1.mono hb.size)
  clear h1 i0 r0 p0 hb
  obtain ⟨V, hV⟩ : ∃ V, (Y.alloc (.cells (posA zeroN) 31)).setRow Y.heap.size (posA a) = V := ⟨_, rfl⟩
  have hV2 : Y.alloc (.cells (posA a) 31) = V := by rw [← hV, World.setRow_alloc_new]
  have pV : PosAt V w.heap.size n := by rw [← hV2]; exact pY.alloc _
  have aV : PosAt V Y.heap.size a := by rw [← hV2]; exact PosAt.new Y _
  have hbV : Below w.heap.size w V := by rw [← hV2]; exact hbY.alloc hbY.size _
  obtain ⟨g1, hg⟩ : ∃ g, Y.heap.size = g := ⟨_, rfl⟩
  rw [hg] at aV
  have hgw1 : w.heap.size < g1 := by have := pY.lt; omega
  have HV := hideIt hV
  have HG := hideIt hg
  obtain ⟨i0, r0⟩ := pV.rules
  clear hV hV2 hg pY hbY
  go_wp2_with (rw [HV.out, HG.out])
  refine (GB.out _).mono ?_
  rintro e Z ⟨rfl, h1⟩
  have pZ := pV.below h1 pV.lt
  have aZ := aV.below h1 aV.lt
  have hbZ := hbV.trans (h1.mono hbV.size)
  clear h1 i0 r0 pV aV hbV HV HG
  obtain ⟨V2, hV⟩ : ∃ V, (Z.alloc (.cells (posA zeroN) 31)).setRow Z.heap.size (posA b) = V := ⟨_, rfl⟩
  have hV2 : Z.alloc (.cells (posA b) 31) = V2 := by rw [← hV, World.setRow_alloc_new]
  have pW : PosAt V2 w.heap.size n := by rw [← hV2]; exact pZ.alloc _
  have aW : PosAt V2 g1 a := by rw [← hV2]; exact aZ.alloc _
  have bW : PosAt V2 Z.heap.size b := by rw [← hV2]; exact PosAt.new Z _
  have hbW : Below w.heap.size w V2 := by rw [← hV2]; exact hbZ.alloc hbZ.size _
  obtain ⟨g2, hg⟩ : ∃ g, Z.heap.size = g := ⟨_, rfl⟩
  rw [hg] at bW
  have hg12 : w.heap.size < g1 ∧ g1 < g2 := ⟨by have := hgw1; omega, by have := aZ.lt; omega⟩
  have HV := hideIt hV
  have HG := hideIt hg
  obtain ⟨i0, r0⟩ := pW.rules
  clear hV hV2 hg pZ aZ hbZ
  go_upto_region 4 with (rw [HV.out, HG.out])
  clear HV HG
  go_cut [11, 12] (fun u11 u12 wx => ∃ g3 g4 : Nat, u11 = .pointer (some ⟨g3, 0, none⟩) ∧ u12 = .pointer (some ⟨g4, 0, none⟩) ∧ Five w g1 g2 g3 g4 n a b n n wx ∧ (w.heap.size < g1 ∧ g1 < g2 ∧ g2 < g3 ∧ g2 < g4 ∧ g3 ≠ g4))
  case first =>
    have q1 := pW.lt
    have q2 := aW.lt
    have q3 := bW.lt
    have q5 : V2.heap.size ≠ w.heap.size := by omega
    have q6 : V2.heap.size + 1 ≠ w.heap.size := by omega
    have q7 : V2.heap.size ≠ V2.heap.size + 1 := by omega
    have q8 : V2.heap.size + 1 ≠ V2.heap.size := by omega
    have hle : w.heap.size ≤ V2.heap.size := by omega
    have hle1 : w.heap.size ≤ V2.heap.size + 1 := by omega
    have t0 : PosAt V2.drew w.heap.size n := pW.drew
    have t1 : PosAt (V2.alloc (.cells (posA zeroN) 31)).drew w.heap.size n := (pW.alloc _).drew
    have t2 : PosAt ((V2.alloc (.cells (posA zeroN) 31)).alloc (.cells (posA zeroN) 31)).drew w.heap.size n := ((pW.alloc _).alloc _).drew
    have t3 : PosAt ((V2.alloc (.cells (posA zeroN) 31)).drew.setRow V2.heap.size (posA n)) w.heap.size n := t1.otherRow q5 _
    have t4 : PosAt (((V2.alloc (.cells (posA zeroN) 31)).drew.setRow V2.heap.size (posA n)).alloc (.cells (posA zeroN) 31)) w.heap.size n := t3.alloc _
    have t5 : PosAt (((V2.alloc (.cells (posA zeroN) 31)).alloc (.cells (posA zeroN) 31)).drew.setRow V2.heap.size (posA n)) w.heap.size n := t2.otherRow q5 _
    have t6 : PosAt (((V2.alloc (.cells (posA zeroN) 31)).alloc (.cells (posA zeroN) 31)).drew.setRow (V2.heap.size + 1) (posA n)) w.heap.size n := t2.otherRow q6 _
    have u1 : PosAt (V2.alloc (.cells (posA zeroN) 31)).drew V2.heap.size zeroN := (PosAt.new V2 _).drew
    have u2 : PosAt ((V2.alloc (.cells (posA zeroN) 31)).alloc (.cells (posA zeroN) 31)).drew V2.heap.size zeroN := ((PosAt.new V2 _).alloc _).drew
    have u3 : PosAt (((V2.alloc (.cells (posA zeroN) 31)).alloc (.cells (posA zeroN) 31)).drew.setRow (V2.heap.size + 1) (posA n)) V2.heap.size zeroN := u2.otherRow q8 _
    have x2 : PosAt ((V2.alloc (.cells (posA zeroN) 31)).alloc (.cells (posA zeroN) 31)).drew (V2.heap.size + 1) zeroN := (PosAt.new1 V2 _ _).drew
    have x3 : PosAt (((V2.alloc (.cells (posA zeroN) 31)).alloc (.cells (posA zeroN) 31)).drew.setRow V2.heap.size (posA n)) (V2.heap.size + 1) zeroN := x2.otherRow q7 _
    have x4 : PosAt (((V2.alloc (.cells (posA zeroN) 31)).drew.setRow V2.heap.size (posA n)).alloc (.cells (posA zeroN) 31)) (V2.heap.size + 1) zeroN := PosAt.newAt zeroN (by rw [setRow_sizeP]; simp)
    have a1 : PosAt (V2.alloc (.cells (posA zeroN) 31)).drew g1 a := (aW.alloc _).drew
    have a2 : PosAt ((V2.alloc (.cells (posA zeroN) 31)).alloc (.cells (posA zeroN) 31)).drew g1 a := ((aW.alloc _).alloc _).drew
    have b1 : PosAt (V2.alloc (.cells (posA zeroN) 31)).drew g2 b := (bW.alloc _).drew
    have b2 : PosAt ((V2.alloc (.cells (posA zeroN) 31)).alloc (.cells (posA zeroN) 31)).drew g2 b := ((bW.alloc _).alloc _).drew
    have hb1 : Below w.heap.size w (V2.alloc (.cells (posA zeroN) 31)).drew := (hbW.alloc hle _).drew
    have hb2 : Below w.heap.size w ((V2.alloc (.cells (posA zeroN) 31)).alloc (.cells (posA zeroN) 31)).drew := ((hbW.alloc hle _).alloc (by simp; omega) _).drew
    have r1 : V2.heap.size ≠ g1 := by omega
    have r2 : V2.heap.size + 1 ≠ g1 := by omega
    have r3 : V2.heap.size ≠ g2 := by omega
    have r4 : V2.heap.size + 1 ≠ g2 := by omega
    have FA : Five w g1 g2 V2.heap.size (V2.heap.size + 1) n a b n n ((((V2.alloc (.cells (posA zeroN) 31)).alloc (.cells (posA zeroN) 31)).drew.setRow V2.heap.size (posA n)).setRow (V2.heap.size + 1) (posA n)) := ⟨t5.otherRow q6 _, (a2.otherRow r1 _).otherRow r2 _, (b2.otherRow r3 _).otherRow r4 _, (u2.setRow n).otherRow q8 _, x3.setRow n, below_setRow (below_setRow hb2 hle _) hle1 _⟩
    have FB : Five w g1 g2 V2.heap.size (V2.heap.size + 1) n a b n n ((((V2.alloc (.cells (posA zeroN) 31)).alloc (.cells (posA zeroN) 31)).drew.setRow (V2.heap.size + 1) (posA n)).setRow V2.heap.size (posA n)) := ⟨t6.otherRow q5 _, (a2.otherRow r2 _).otherRow r1 _, (b2.otherRow r4 _).otherRow r3 _, u3.setRow n, (x2.setRow n).otherRow q7 _, below_setRow (below_setRow hb2 hle1 _) hle _⟩
    have FC : Five w g1 g2 V2.heap.size (V2.heap.size + 1) n a b n n ((((V2.alloc (.cells (posA zeroN) 31)).drew.setRow V2.heap.size (posA n)).alloc (.cells (posA zeroN) 31)).setRow (V2.heap.size + 1) (posA n)) := ⟨t4.otherRow q6 _, ((a1.otherRow r1 _).alloc _).otherRow r2 _, ((b1.otherRow r3 _).alloc _).otherRow r4 _, ((u1.setRow n).alloc _).otherRow q8 _, x4.setRow n, below_setRow ((below_setRow hb1 hle _).alloc (by rw [setRow_sizeP]; simp; omega) _) hle1 _⟩
    have GA' := Five.swap FA
    have GB' := Five.swap FB
    have GC := Five.swap FC
    obtain ⟨i0, s0⟩ := t0.rules
    obtain ⟨i1, s1⟩ := t1.rules
    obtain ⟨i2, s2⟩ := t2.rules
    obtain ⟨i3, s3⟩ := t3.rules
    obtain ⟨i4, s4⟩ := t4.rules
    obtain ⟨i5, s5⟩ := t5.rules
    obtain ⟨i6, s6⟩ := t6.rules
    obtain ⟨i7, s7⟩ := u1.rules
    obtain ⟨i8, s8⟩ := u2.rules
    obtain ⟨i9, s9⟩ := u3.rules
    obtain ⟨i10, s10⟩ := x2.rules
    obtain ⟨i11, s11⟩ := x3.rules
    obtain ⟨i12, s12⟩ := x4.rules
    have HFA := hideIt FA
    have HFB := hideIt FB
    have HFC := hideIt FC
    have HGA := hideIt GA'
    have HGB := hideIt GB'
    have HGC := hideIt GC
    clear FA FB FC GA' GB' GC t0 t1 t2 t3 t4 t5 t6 u1 u2 u3 x2 x3 x4 a1 a2 b1 b2 hb1 hb2
    go_region
    all_goals
      go_wp2_with fail
      go_meet
      first | exact ⟨_, _, rfl, rfl, HFA.out, by omega⟩ | exact ⟨_, _, rfl, rfl, HFB.out, by omega⟩ | exact ⟨_, _, rfl, rfl, HFC.out, by omega⟩ | exact ⟨_, _, rfl, rfl, HGA.out, by omega⟩ | exact ⟨_, _, rfl, rfl, HGB.out, by omega⟩ | exact ⟨_, _, rfl, rfl, HGC.out, by omega⟩
  case rest =>
    obtain ⟨g3, g4, rfl, rfl, F5, hord⟩ := hcut
    obtain ⟨o1, o2, o3, o4, o5⟩ := hord
    have n1 : ¬ g3 = w.heap.size := by omega
    have n2 : ¬ w.heap.size = g3 := by omega
    have n3 : ¬ g4 = w.heap.size := by omega
    have n4 : ¬ w.heap.size = g4 := by omega
    have n5 : ¬ g4 = g3 := fun e => o5 e.symm
    have n6 : ¬ g3 = g1 := by omega
    have n7 : ¬ g3 = g2 := by omega
    have n8 : ¬ g4 = g1 := by omega
    have n9 : ¬ g4 = g2 := by omega
    have hl3 : w.heap.size ≤ g3 := by omega
    have hl4 : w.heap.size ≤ g4 := by omega
    have FM : PosAt wc g3 a := by rw [HAe.out]; exact F5.pm
    have FL : PosAt wc g4 b := by rw [HBe.out]; exact F5.pl
    obtain ⟨e1, e2⟩ := F5.pa.rules
    obtain ⟨e3, e4⟩ := F5.pb.rules
    obtain ⟨e5, e6⟩ := FM.rules
    obtain ⟨e7, e8⟩ := FL.rules
    have hbE := F5.below
    have hTE := HT0.out.below hbE (Nat.le_refl _)
    have okA := HOA.out
    have okB := HOB.out
    clear F5 FM FL
    go_wp2_with fail
    refine (awakeD_any _ hTE).mono ?_
    rintro e w9 ⟨rfl, h1⟩
    have hbE := hbE.trans (h1.mono hbE.size)
    clear h1 e1 e2 e3 e4 e5 e6 e7 e8 hTE
    go_wp2
    go_ret
    exact ⟨rfl, hbE⟩


set_option maxRecDepth 100000 in
set_option maxHeartbeats 8000000 in
theorem dp_noL (n : Nat → Int) (hn : PosOk n) (c k : Nat) (c255 : c ≤ 255) (k255 : k ≤ 255) (h0 : c < 2) (h : k < 1) (w : World) (hT : Tab w) :
    Calls Tryd.prog 5 #[.agg (posA n), .int .u8 (c : Int), .int .u8 (k : Int)] w fun e w' => e = .returned (.bool true) ∧ Below w.heap.size w w' := by
  have hf : fitsB (c : Int) k = false := by
    cases h2 : fitsB (c : Int) k with
    | false => rfl
    | true => rw [fits_iff] at h2; omega
  have hA : addB n c k = false := by unfold addB; rw [hf]; rfl
  have hB : takB n c k = false := by unfold takB; rw [hf]; rfl
  have hAe : addN n c k = n := by unfold addN; rw [hA]; rfl
  have hBe : takN n c k = n := by unfold takN; rw [hB]; rfl
  have aok := add_ok hn c k
  have bok := tak_ok hn c k
  have HADD : ∀ W, Calls Tryd.prog 17 #[.agg (posA n), .int .u8 (c : Int), .int .u8 (k : Int)] W fun e w' => e = .returned (.agg (posA (addN n c k))) ∧ Below W.heap.size W w' := fun W => add_any n hn c k (by omega) (by omega) W
  have HTAK : ∀ W, Calls Tryd.prog 18 #[.agg (posA n), .int .u8 (c : Int), .int .u8 (k : Int)] W fun e w' => e = .returned (.tuple #[.agg (posA (takN n c k)), .bool (takB n c k)]) ∧ Below W.heap.size W w' := fun W => tak_any n hn c k (by omega) (by omega) W
  rw [hB] at HTAK
  obtain ⟨a, ha⟩ : ∃ a, addN n c k = a := ⟨_, rfl⟩
  obtain ⟨b, hbn⟩ : ∃ b, takN n c k = b := ⟨_, rfl⟩
  rw [ha] at HADD aok hAe
  rw [hbn] at HTAK bok hBe
  have HAe := hideIt hAe
  have HBe := hideIt hBe
  have d1 : decide ((c : Int) < 2) = true := decide_eq_true (by omega)
  have d2 : decide ((1 : Int) ≤ k) = false := decide_eq_false (by omega)
  clear hf hA hB hAe hBe ha hbn h h0
  have GA : Hid (∀ W, Calls Tryd.prog 17 #[.agg (posA n), .int .u8 (c : Int), .int .u8 (k : Int)] W fun e w' => e = .returned (.agg (posA a)) ∧ Below W.heap.size W w') := HADD
  have GB : Hid (∀ W, Calls Tryd.prog 18 #[.agg (posA n), .int .u8 (c : Int), .int .u8 (k : Int)] W fun e w' => e = .returned (.tuple #[.agg (posA b), .bool false]) ∧ Below W.heap.size W w') := HTAK
  have HOA := hideIt aok
  have HOB := hideIt bok
  have EA := eqP_self a
  have EB := eqP_self b
  clear HADD HTAK aok bok
  obtain ⟨X, hX⟩ : ∃ X, w.alloc (.cells (posA n) 31) = X := ⟨_, rfl⟩
  obtain ⟨p0, hb⟩ := box1 w n X hX
  have HX := hideIt hX
  have HT0 := hideIt hT
  have hzp := zeroPos
  obtain ⟨i0, r0⟩ := p0.rules
  clear hX hT
  go_enter Tryd.func5, Tryd.ntmps5
  go_wp2_with (rw [HX.out])
  refine (GA.out _).mono ?_
  rintro e Y ⟨rfl, h1⟩
  have pY := p0.below h1 p0.lt
  have hbY := hb.trans (h1.mono hb.size)
  clear h1 i0 r0 p0 hb
  obtain ⟨V, hV⟩ : ∃ V, (Y.alloc (.cells (posA zeroN) 31)).setRow Y.heap.size (posA a) = V := ⟨_, rfl⟩
  have hV2 : Y.alloc (.cells (posA a) 31) = V := by rw [← hV, World.setRow_alloc_new]
  have pV : PosAt V w.heap.size n := by rw [← hV2]; exact pY.alloc _
  have aV : PosAt V Y.heap.size a := by rw [← hV2]; exact PosAt.new Y _
  have hbV : Below w.heap.size w V := by rw [← hV2]; exact hbY.alloc hbY.size _
  obtain ⟨g1, hg⟩ : ∃ g, Y.heap.size = g := ⟨_, rfl⟩
  rw [hg] at aV
  have hgw1 : w.heap.size < g1 := by have := pY.lt; omega
  have HV := hideIt hV
  have HG := hideIt hg
  obtain ⟨i0, r0⟩ := pV.rules
  clear hV hV2 hg pY hbY
  go_wp2_with (rw [HV.out, HG.out])
  refine (GB.out _).mono ?_
  rintro e Z ⟨rfl, h1⟩
  have pZ := pV.below h1 pV.lt
  have aZ := aV.below h1 aV.lt
  have hbZ := hbV.trans (h1.mono hbV.size)
  clear h1 i0 r0 pV aV hbV HV HG
  obtain ⟨V2, hV⟩ : ∃ V, (Z.alloc (.cells (posA zeroN) 31)).setRow Z.heap.size (posA b) = V := ⟨_, rfl⟩
  have hV2 : Z.alloc (.cells (posA b) 31) = V2 := by rw [← hV, World.setRow_alloc_new]
  have pW : PosAt V2 w.heap.size n := by rw [← hV2]; exact pZ.alloc _
  have aW : PosAt V2 g1 a := by rw [← hV2]; exact aZ.alloc _
  have bW : PosAt V2 Z.heap.size b := by rw [← hV2]; exact PosAt.new Z _
  have hbW : Below w.heap.size w V2 := by rw [← hV2]; exact hbZ.alloc hbZ.size _
  obtain ⟨g2, hg⟩ : ∃ g, Z.heap.size = g := ⟨_, rfl⟩
  rw [hg] at bW
  have hg12 : w.heap.size < g1 ∧ g1 < g2 := ⟨by have := hgw1; omega, by have := aZ.lt; omega⟩
  have HV := hideIt hV
  have HG := hideIt hg
  obtain ⟨i0, r0⟩ := pW.rules
  clear hV hV2 hg pZ aZ hbZ
  go_upto_region 4 with (rw [HV.out, HG.out])
  clear HV HG
  go_cut [11, 12] (fun u11 u12 wx => ∃ g3 g4 : Nat, u11 = .pointer (some ⟨g3, 0, none⟩) ∧ u12 = .pointer (some ⟨g4, 0, none⟩) ∧ Five w g1 g2 g3 g4 n a b n n wx ∧ (w.heap.size < g1 ∧ g1 < g2 ∧ g2 < g3 ∧ g2 < g4 ∧ g3 ≠ g4))
  case first =>
    have q1 := pW.lt
    have q2 := aW.lt
    have q3 := bW.lt
    have q5 : V2.heap.size ≠ w.heap.size := by omega
    have q6 : V2.heap.size + 1 ≠ w.heap.size := by omega
    have q7 : V2.heap.size ≠ V2.heap.size + 1 := by omega
    have q8 : V2.heap.size + 1 ≠ V2.heap.size := by omega
    have hle : w.heap.size ≤ V2.heap.size := by omega
    have hle1 : w.heap.size ≤ V2.heap.size + 1 := by omega
    have t0 : PosAt V2.drew w.heap.size n := pW.drew
    have t1 : PosAt (V2.alloc (.cells (posA zeroN) 31)).drew w.heap.size n := (pW.alloc _).drew
    have t2 : PosAt ((V2.alloc (.cells (posA zeroN) 31)).alloc (.cells (posA zeroN) 31)).drew w.heap.size n := ((pW.alloc _).alloc _).drew
    have t3 : PosAt ((V2.alloc (.cells (posA zeroN) 31)).drew.setRow V2.heap.size (posA n)) w.heap.size n := t1.otherRow q5 _
    have t4 : PosAt (((V2.alloc (.cells (posA zeroN) 31)).drew.setRow V2.heap.size (posA n)).alloc (.cells (posA zeroN) 31)) w.heap.size n := t3.alloc _
    have t5 : PosAt (((V2.alloc (.cells (posA zeroN) 31)).alloc (.cells (posA zeroN) 31)).drew.setRow V2.heap.size (posA n)) w.heap.size n := t2.otherRow q5 _
    have t6 : PosAt (((V2.alloc (.cells (posA zeroN) 31)).alloc (.cells (posA zeroN) 31)).drew.setRow (V2.heap.size + 1) (posA n)) w.heap.size n := t2.otherRow q6 _
    have u1 : PosAt (V2.alloc (.cells (posA zeroN) 31)).drew V2.heap.size zeroN := (PosAt.new V2 _).drew
    have u2 : PosAt ((V2.alloc (.cells (posA zeroN) 31)).alloc (.cells (posA zeroN) 31)).drew V2.heap.size zeroN := ((PosAt.new V2 _).alloc _).drew
    have u3 : PosAt (((V2.alloc (.cells (posA zeroN) 31)).alloc (.cells (posA zeroN) 31)).drew.setRow (V2.heap.size + 1) (posA n)) V2.heap.size zeroN := u2.otherRow q8 _
    have x2 : PosAt ((V2.alloc (.cells (posA zeroN) 31)).alloc (.cells (posA zeroN) 31)).drew (V2.heap.size + 1) zeroN := (PosAt.new1 V2 _ _).drew
    have x3 : PosAt (((V2.alloc (.cells (posA zeroN) 31)).alloc (.cells (posA zeroN) 31)).drew.setRow V2.heap.size (posA n)) (V2.heap.size + 1) zeroN := x2.otherRow q7 _
    have x4 : PosAt (((V2.alloc (.cells (posA zeroN) 31)).drew.setRow V2.heap.size (posA n)).alloc (.cells (posA zeroN) 31)) (V2.heap.size + 1) zeroN := PosAt.newAt zeroN (by rw [setRow_sizeP]; simp)
    have a1 : PosAt (V2.alloc (.cells (posA zeroN) 31)).drew g1 a := (aW.alloc _).drew
    have a2 : PosAt ((V2.alloc (.cells (posA zeroN) 31)).alloc (.cells (posA zeroN) 31)).drew g1 a := ((aW.alloc _).alloc _).drew
    have b1 : PosAt (V2.alloc (.cells (posA zeroN) 31)).drew g2 b := (bW.alloc _).drew
    have b2 : PosAt ((V2.alloc (.cells (posA zeroN) 31)).alloc (.cells (posA zeroN) 31)).drew g2 b := ((bW.alloc _).alloc _).drew
    have hb1 : Below w.heap.size w (V2.alloc (.cells (posA zeroN) 31)).drew := (hbW.alloc hle _).drew
    have hb2 : Below w.heap.size w ((V2.alloc (.cells (posA zeroN) 31)).alloc (.cells (posA zeroN) 31)).drew := ((hbW.alloc hle _).alloc (by simp; omega) _).drew
    have r1 : V2.heap.size ≠ g1 := by omega
    have r2 : V2.heap.size + 1 ≠ g1 := by omega
    have r3 : V2.heap.size ≠ g2 := by omega
    have r4 : V2.heap.size + 1 ≠ g2 := by omega
    have FA : Five w g1 g2 V2.heap.size (V2.heap.size + 1) n a b n n ((((V2.alloc (.cells (posA zeroN) 31)).alloc (.cells (posA zeroN) 31)).drew.setRow V2.heap.size (posA n)).setRow (V2.heap.size + 1) (posA n)) := ⟨t5.otherRow q6 _, (a2.otherRow r1 _).otherRow r2 _, (b2.otherRow r3 _).otherRow r4 _, (u2.setRow n).otherRow q8 _, x3.setRow n, below_setRow (below_setRow hb2 hle _) hle1 _⟩
    have FB : Five w g1 g2 V2.heap.size (V2.heap.size + 1) n a b n n ((((V2.alloc (.cells (posA zeroN) 31)).alloc (.cells (posA zeroN) 31)).drew.setRow (V2.heap.size + 1) (posA n)).setRow V2.heap.size (posA n)) := ⟨t6.otherRow q5 _, (a2.otherRow r2 _).otherRow r1 _, (b2.otherRow r4 _).otherRow r3 _, u3.setRow n, (x2.setRow n).otherRow q7 _, below_setRow (below_setRow hb2 hle1 _) hle _⟩
    have FC : Five w g1 g2 V2.heap.size (V2.heap.size + 1) n a b n n ((((V2.alloc (.cells (posA zeroN) 31)).drew.setRow V2.heap.size (posA n)).alloc (.cells (posA zeroN) 31)).setRow (V2.heap.size + 1) (posA n)) := ⟨t4.otherRow q6 _, ((a1.otherRow r1 _).alloc _).otherRow r2 _, ((b1.otherRow r3 _).alloc _).otherRow r4 _, ((u1.setRow n).alloc _).otherRow q8 _, x4.setRow n, below_setRow ((below_setRow hb1 hle _).alloc (by rw [setRow_sizeP]; simp; omega) _) hle1 _⟩
    have GA' := Five.swap FA
    have GB' := Five.swap FB
    have GC := Five.swap FC
    obtain ⟨i0, s0⟩ := t0.rules
    obtain ⟨i1, s1⟩ := t1.rules
    obtain ⟨i2, s2⟩ := t2.rules
    obtain ⟨i3, s3⟩ := t3.rules
    obtain ⟨i4, s4⟩ := t4.rules
    obtain ⟨i5, s5⟩ := t5.rules
    obtain ⟨i6, s6⟩ := t6.rules
    obtain ⟨i7, s7⟩ := u1.rules
    obtain ⟨i8, s8⟩ := u2.rules
    obtain ⟨i9, s9⟩ := u3.rules
    obtain ⟨i10, s10⟩ := x2.rules
    obtain ⟨i11, s11⟩ := x3.rules
    obtain ⟨i12, s12⟩ := x4.rules
    have HFA := hideIt FA
    have HFB := hideIt FB
    have HFC := hideIt FC
    have HGA := hideIt GA'
    have HGB := hideIt GB'
    have HGC := hideIt GC
    clear FA FB FC GA' GB' GC t0 t1 t2 t3 t4 t5 t6 u1 u2 u3 x2 x3 x4 a1 a2 b1 b2 hb1 hb2
    go_region
    all_goals
      go_wp2_with fail
      go_meet
      first | exact ⟨_, _, rfl, rfl, HFA.out, by omega⟩ | exact ⟨_, _, rfl, rfl, HFB.out, by omega⟩ | exact ⟨_, _, rfl, rfl, HFC.out, by omega⟩ | exact ⟨_, _, rfl, rfl, HGA.out, by omega⟩ | exact ⟨_, _, rfl, rfl, HGB.out, by omega⟩ | exact ⟨_, _, rfl, rfl, HGC.out, by omega⟩
  case rest =>
    obtain ⟨g3, g4, rfl, rfl, F5, hord⟩ := hcut
    obtain ⟨o1, o2, o3, o4, o5⟩ := hord
    have n1 : ¬ g3 = w.heap.size := by omega
    have n2 : ¬ w.heap.size = g3 := by omega
    have n3 : ¬ g4 = w.heap.size := by omega
    have n4 : ¬ w.heap.size = g4 := by omega
    have n5 : ¬ g4 = g3 := fun e => o5 e.symm
    have n6 : ¬ g3 = g1 := by omega
    have n7 : ¬ g3 = g2 := by omega
    have n8 : ¬ g4 = g1 := by omega
    have n9 : ¬ g4 = g2 := by omega
    have hl3 : w.heap.size ≤ g3 := by omega
    have hl4 : w.heap.size ≤ g4 := by omega
    have FM : PosAt wc g3 a := by rw [HAe.out]; exact F5.pm
    have FL : PosAt wc g4 b := by rw [HBe.out]; exact F5.pl
    obtain ⟨e1, e2⟩ := F5.pa.rules
    obtain ⟨e3, e4⟩ := F5.pb.rules
    obtain ⟨e5, e6⟩ := FM.rules
    obtain ⟨e7, e8⟩ := FL.rules
    have hbE := F5.below
    have hTE := HT0.out.below hbE (Nat.le_refl _)
    have okA := HOA.out
    have okB := HOB.out
    clear F5 FM FL
    go_wp2_with fail
    refine (awakeD_any _ hTE).mono ?_
    rintro e w9 ⟨rfl, h1⟩
    have hbE := hbE.trans (h1.mono hbE.size)
    clear h1 e1 e2 e3 e4 e5 e6 e7 e8 hTE
    go_wp2
    go_ret
    exact ⟨rfl, hbE⟩


set_option maxRecDepth 100000 in
set_option maxHeartbeats 8000000 in
theorem dp_noH (n : Nat → Int) (hn : PosOk n) (c k : Nat) (c255 : c ≤ 255) (k255 : k ≤ 255) (h0 : c < 2) (h : 5 < k) (w : World) (hT : Tab w) :
    Calls Tryd.prog 5 #[.agg (posA n), .int .u8 (c : Int), .int .u8 (k : Int)] w fun e w' => e = .returned (.bool true) ∧ Below w.heap.size w w' := by
  have hf : fitsB (c : Int) k = false := by
    cases h2 : fitsB (c : Int) k with
    | false => rfl
    | true => rw [fits_iff] at h2; omega
  have hA : addB n c k = false := by unfold addB; rw [hf]; rfl
  have hB : takB n c k = false := by unfold takB; rw [hf]; rfl
  have hAe : addN n c k = n := by unfold addN; rw [hA]; rfl
  have hBe : takN n c k = n := by unfold takN; rw [hB]; rfl
  have aok := add_ok hn c k
  have bok := tak_ok hn c k
  have HADD : ∀ W, Calls Tryd.prog 17 #[.agg (posA n), .int .u8 (c : Int), .int .u8 (k : Int)] W fun e w' => e = .returned (.agg (posA (addN n c k))) ∧ Below W.heap.size W w' := fun W => add_any n hn c k (by omega) (by omega) W
  have HTAK : ∀ W, Calls Tryd.prog 18 #[.agg (posA n), .int .u8 (c : Int), .int .u8 (k : Int)] W fun e w' => e = .returned (.tuple #[.agg (posA (takN n c k)), .bool (takB n c k)]) ∧ Below W.heap.size W w' := fun W => tak_any n hn c k (by omega) (by omega) W
  rw [hB] at HTAK
  obtain ⟨a, ha⟩ : ∃ a, addN n c k = a := ⟨_, rfl⟩
  obtain ⟨b, hbn⟩ : ∃ b, takN n c k = b := ⟨_, rfl⟩
  rw [ha] at HADD aok hAe
  rw [hbn] at HTAK bok hBe
  have HAe := hideIt hAe
  have HBe := hideIt hBe
  have d1 : decide ((c : Int) < 2) = true := decide_eq_true (by omega)
  have d2 : decide ((1 : Int) ≤ k) = true := decide_eq_true (by omega)
  have d3 : decide ((k : Int) ≤ 5) = false := decide_eq_false (by omega)
  clear hf hA hB hAe hBe ha hbn h h0
  have GA : Hid (∀ W, Calls Tryd.prog 17 #[.agg (posA n), .int .u8 (c : Int), .int .u8 (k : Int)] W fun e w' => e = .returned (.agg (posA a)) ∧ Below W.heap.size W w') := HADD
  have GB : Hid (∀ W, Calls Tryd.prog 18 #[.agg (posA n), .int .u8 (c : Int), .int .u8 (k : Int)] W fun e w' => e = .returned (.tuple #[.agg (posA b), .bool false]) ∧ Below W.heap.size W w') := HTAK
  have HOA := hideIt aok
  have HOB := hideIt bok
  have EA := eqP_self a
  have EB := eqP_self b
  clear HADD HTAK aok bok
  obtain ⟨X, hX⟩ : ∃ X, w.alloc (.cells (posA n) 31) = X := ⟨_, rfl⟩
  obtain ⟨p0, hb⟩ := box1 w n X hX
  have HX := hideIt hX
  have HT0 := hideIt hT
  have hzp := zeroPos
  obtain ⟨i0, r0⟩ := p0.rules
  clear hX hT
  go_enter Tryd.func5, Tryd.ntmps5
  go_wp2_with (rw [HX.out])
  refine (GA.out _).mono ?_
  rintro e Y ⟨rfl, h1⟩
  have pY := p0.below h1 p0.lt
  have hbY := hb.trans (h1.mono hb.size)
  clear h1 i0 r0 p0 hb
  obtain ⟨V, hV⟩ : ∃ V, (Y.alloc (.cells (posA zeroN) 31)).setRow Y.heap.size (posA a) = V := ⟨_, rfl⟩
  have hV2 : Y.alloc (.cells (posA a) 31) = V := by rw [← hV, World.setRow_alloc_new]
  have pV : PosAt V w.heap.size n := by rw [← hV2]; exact pY.alloc _
  have aV : PosAt V Y.heap.size a := by rw [← hV2]; exact PosAt.new Y _
  have hbV : Below w.heap.size w V := by rw [← hV2]; exact hbY.alloc hbY.size _
  obtain ⟨g1, hg⟩ : ∃ g, Y.heap.size = g := ⟨_, rfl⟩
  rw [hg] at aV
  have hgw1 : w.heap.size < g1 := by have := pY.lt; omega
  have HV := hideIt hV
  have HG := hideIt hg
  obtain ⟨i0, r0⟩ := pV.rules
  clear hV hV2 hg pY hbY
  go_wp2_with (rw [HV.out, HG.out])
  refine (GB.out _).mono ?_
  rintro e Z ⟨rfl, h1⟩
  have pZ := pV.below h1 pV.lt
  have aZ := aV.below h1 aV.lt
  have hbZ := hbV.trans (h1.mono hbV.size)
  clear h1 i0 r0 pV aV hbV HV HG
  obtain ⟨V2, hV⟩ : ∃ V, (Z.alloc (.cells (posA zeroN) 31)).setRow Z.heap.size (posA b) = V := ⟨_, rfl⟩
  have hV2 : Z.alloc (.cells (posA b) 31) = V2 := by rw [← hV, World.setRow_alloc_new]
  have pW : PosAt V2 w.heap.size n := by rw [← hV2]; exact pZ.alloc _
  have aW : PosAt V2 g1 a := by rw [← hV2]; exact aZ.alloc _
  have bW : PosAt V2 Z.heap.size b := by rw [← hV2]; exact PosAt.new Z _
  have hbW : Below w.heap.size w V2 := by rw [← hV2]; exact hbZ.alloc hbZ.size _
  obtain ⟨g2, hg⟩ : ∃ g, Z.heap.size = g := ⟨_, rfl⟩
  rw [hg] at bW
  have hg12 : w.heap.size < g1 ∧ g1 < g2 := ⟨by have := hgw1; omega, by have := aZ.lt; omega⟩
  have HV := hideIt hV
  have HG := hideIt hg
  obtain ⟨i0, r0⟩ := pW.rules
  clear hV hV2 hg pZ aZ hbZ
  go_upto_region 4 with (rw [HV.out, HG.out])
  clear HV HG
  go_cut [11, 12] (fun u11 u12 wx => ∃ g3 g4 : Nat, u11 = .pointer (some ⟨g3, 0, none⟩) ∧ u12 = .pointer (some ⟨g4, 0, none⟩) ∧ Five w g1 g2 g3 g4 n a b n n wx ∧ (w.heap.size < g1 ∧ g1 < g2 ∧ g2 < g3 ∧ g2 < g4 ∧ g3 ≠ g4))
  case first =>
    have q1 := pW.lt
    have q2 := aW.lt
    have q3 := bW.lt
    have q5 : V2.heap.size ≠ w.heap.size := by omega
    have q6 : V2.heap.size + 1 ≠ w.heap.size := by omega
    have q7 : V2.heap.size ≠ V2.heap.size + 1 := by omega
    have q8 : V2.heap.size + 1 ≠ V2.heap.size := by omega
    have hle : w.heap.size ≤ V2.heap.size := by omega
    have hle1 : w.heap.size ≤ V2.heap.size + 1 := by omega
    have t0 : PosAt V2.drew w.heap.size n := pW.drew
    have t1 : PosAt (V2.alloc (.cells (posA zeroN) 31)).drew w.heap.size n := (pW.alloc _).drew
    have t2 : PosAt ((V2.alloc (.cells (posA zeroN) 31)).alloc (.cells (posA zeroN) 31)).drew w.heap.size n := ((pW.alloc _).alloc _).drew
    have t3 : PosAt ((V2.alloc (.cells (posA zeroN) 31)).drew.setRow V2.heap.size (posA n)) w.heap.size n := t1.otherRow q5 _
    have t4 : PosAt (((V2.alloc (.cells (posA zeroN) 31)).drew.setRow V2.heap.size (posA n)).alloc (.cells (posA zeroN) 31)) w.heap.size n := t3.alloc _
    have t5 : PosAt (((V2.alloc (.cells (posA zeroN) 31)).alloc (.cells (posA zeroN) 31)).drew.setRow V2.heap.size (posA n)) w.heap.size n := t2.otherRow q5 _
    have t6 : PosAt (((V2.alloc (.cells (posA zeroN) 31)).alloc (.cells (posA zeroN) 31)).drew.setRow (V2.heap.size + 1) (posA n)) w.heap.size n := t2.otherRow q6 _
    have u1 : PosAt (V2.alloc (.cells (posA zeroN) 31)).drew V2.heap.size zeroN := (PosAt.new V2 _).drew
    have u2 : PosAt ((V2.alloc (.cells (posA zeroN) 31)).alloc (.cells (posA zeroN) 31)).drew V2.heap.size zeroN := ((PosAt.new V2 _).alloc _).drew
    have u3 : PosAt (((V2.alloc (.cells (posA zeroN) 31)).alloc (.cells (posA zeroN) 31)).drew.setRow (V2.heap.size + 1) (posA n)) V2.heap.size zeroN := u2.otherRow q8 _
    have x2 : PosAt ((V2.alloc (.cells (posA zeroN) 31)).alloc (.cells (posA zeroN) 31)).drew (V2.heap.size + 1) zeroN := (PosAt.new1 V2 _ _).drew
    have x3 : PosAt (((V2.alloc (.cells (posA zeroN) 31)).alloc (.cells (posA zeroN) 31)).drew.setRow V2.heap.size (posA n)) (V2.heap.size + 1) zeroN := x2.otherRow q7 _
    have x4 : PosAt (((V2.alloc (.cells (posA zeroN) 31)).drew.setRow V2.heap.size (posA n)).alloc (.cells (posA zeroN) 31)) (V2.heap.size + 1) zeroN := PosAt.newAt zeroN (by rw [setRow_sizeP]; simp)
    have a1 : PosAt (V2.alloc (.cells (posA zeroN) 31)).drew g1 a := (aW.alloc _).drew
    have a2 : PosAt ((V2.alloc (.cells (posA zeroN) 31)).alloc (.cells (posA zeroN) 31)).drew g1 a := ((aW.alloc _).alloc _).drew
    have b1 : PosAt (V2.alloc (.cells (posA zeroN) 31)).drew g2 b := (bW.alloc _).drew
    have b2 : PosAt ((V2.alloc (.cells (posA zeroN) 31)).alloc (.cells (posA zeroN) 31)).drew g2 b := ((bW.alloc _).alloc _).drew
    have hb1 : Below w.heap.size w (V2.alloc (.cells (posA zeroN) 31)).drew := (hbW.alloc hle _).drew
    have hb2 : Below w.heap.size w ((V2.alloc (.cells (posA zeroN) 31)).alloc (.cells (posA zeroN) 31)).drew := ((hbW.alloc hle _).alloc (by simp; omega) _).drew
    have r1 : V2.heap.size ≠ g1 := by omega
    have r2 : V2.heap.size + 1 ≠ g1 := by omega
    have r3 : V2.heap.size ≠ g2 := by omega
    have r4 : V2.heap.size + 1 ≠ g2 := by omega
    have FA : Five w g1 g2 V2.heap.size (V2.heap.size + 1) n a b n n ((((V2.alloc (.cells (posA zeroN) 31)).alloc (.cells (posA zeroN) 31)).drew.setRow V2.heap.size (posA n)).setRow (V2.heap.size + 1) (posA n)) := ⟨t5.otherRow q6 _, (a2.otherRow r1 _).otherRow r2 _, (b2.otherRow r3 _).otherRow r4 _, (u2.setRow n).otherRow q8 _, x3.setRow n, below_setRow (below_setRow hb2 hle _) hle1 _⟩
    have FB : Five w g1 g2 V2.heap.size (V2.heap.size + 1) n a b n n ((((V2.alloc (.cells (posA zeroN) 31)).alloc (.cells (posA zeroN) 31)).drew.setRow (V2.heap.size + 1) (posA n)).setRow V2.heap.size (posA n)) := ⟨t6.otherRow q5 _, (a2.otherRow r2 _).otherRow r1 _, (b2.otherRow r4 _).otherRow r3 _, u3.setRow n, (x2.setRow n).otherRow q7 _, below_setRow (below_setRow hb2 hle1 _) hle _⟩
    have FC : Five w g1 g2 V2.heap.size (V2.heap.size + 1) n a b n n ((((V2.alloc (.cells (posA zeroN) 31)).drew.setRow V2.heap.size (posA n)).alloc (.cells (posA zeroN) 31)).setRow (V2.heap.size + 1) (posA n)) := ⟨t4.otherRow q6 _, ((a1.otherRow r1 _).alloc _).otherRow r2 _, ((b1.otherRow r3 _).alloc _).otherRow r4 _, ((u1.setRow n).alloc _).otherRow q8 _, x4.setRow n, below_setRow ((below_setRow hb1 hle _).alloc (by rw [setRow_sizeP]; simp; omega) _) hle1 _⟩
    have GA' := Five.swap FA
    have GB' := Five.swap FB
    have GC := Five.swap FC
    obtain ⟨i0, s0⟩ := t0.rules
    obtain ⟨i1, s1⟩ := t1.rules
    obtain ⟨i2, s2⟩ := t2.rules
    obtain ⟨i3, s3⟩ := t3.rules
    obtain ⟨i4, s4⟩ := t4.rules
    obtain ⟨i5, s5⟩ := t5.rules
    obtain ⟨i6, s6⟩ := t6.rules
    obtain ⟨i7, s7⟩ := u1.rules
    obtain ⟨i8, s8⟩ := u2.rules
    obtain ⟨i9, s9⟩ := u3.rules
    obtain ⟨i10, s10⟩ := x2.rules
    obtain ⟨i11, s11⟩ := x3.rules
    obtain ⟨i12, s12⟩ := x4.rules
    have HFA := hideIt FA
    have HFB := hideIt FB
    have HFC := hideIt FC
    have HGA := hideIt GA'
    have HGB := hideIt GB'
    have HGC := hideIt GC
    clear FA FB FC GA' GB' GC t0 t1 t2 t3 t4 t5 t6 u1 u2 u3 x2 x3 x4 a1 a2 b1 b2 hb1 hb2
    go_region
    all_goals
      go_wp2_with fail
      go_meet
      first | exact ⟨_, _, rfl, rfl, HFA.out, by omega⟩ | exact ⟨_, _, rfl, rfl, HFB.out, by omega⟩ | exact ⟨_, _, rfl, rfl, HFC.out, by omega⟩ | exact ⟨_, _, rfl, rfl, HGA.out, by omega⟩ | exact ⟨_, _, rfl, rfl, HGB.out, by omega⟩ | exact ⟨_, _, rfl, rfl, HGC.out, by omega⟩
  case rest =>
    obtain ⟨g3, g4, rfl, rfl, F5, hord⟩ := hcut
    obtain ⟨o1, o2, o3, o4, o5⟩ := hord
    have n1 : ¬ g3 = w.heap.size := by omega
    have n2 : ¬ w.heap.size = g3 := by omega
    have n3 : ¬ g4 = w.heap.size := by omega
    have n4 : ¬ w.heap.size = g4 := by omega
    have n5 : ¬ g4 = g3 := fun e => o5 e.symm
    have n6 : ¬ g3 = g1 := by omega
    have n7 : ¬ g3 = g2 := by omega
    have n8 : ¬ g4 = g1 := by omega
    have n9 : ¬ g4 = g2 := by omega
    have hl3 : w.heap.size ≤ g3 := by omega
    have hl4 : w.heap.size ≤ g4 := by omega
    have FM : PosAt wc g3 a := by rw [HAe.out]; exact F5.pm
    have FL : PosAt wc g4 b := by rw [HBe.out]; exact F5.pl
    obtain ⟨e1, e2⟩ := F5.pa.rules
    obtain ⟨e3, e4⟩ := F5.pb.rules
    obtain ⟨e5, e6⟩ := FM.rules
    obtain ⟨e7, e8⟩ := FL.rules
    have hbE := F5.below
    have hTE := HT0.out.below hbE (Nat.le_refl _)
    have okA := HOA.out
    have okB := HOB.out
    clear F5 FM FL
    go_wp2_with fail
    refine (awakeD_any _ hTE).mono ?_
    rintro e w9 ⟨rfl, h1⟩
    have hbE := hbE.trans (h1.mono hbE.size)
    clear h1 e1 e2 e3 e4 e5 e6 e7 e8 hTE
    go_wp2
    go_ret
    exact ⟨rfl, hbE⟩


theorem dropPockets_walk (n : Nat → Int) (a1 a2 : Int) (w0 : PosOk n) (w1 : (Lit.int .u8 a1).wf = true) (w2 : (Lit.int .u8 a2).wf = true) (w : World) (hT : Tab w) :
    Calls Tryd.prog 5 #[.agg (posA n), .int .u8 a1, .int .u8 a2] w fun e w' => e = .returned (.bool true) ∧ Below w.heap.size w w' := by
  obtain ⟨x0, x1⟩ := wf_u8 w1
  obtain ⟨y0, y1⟩ := wf_u8 w2
  obtain ⟨c, rfl⟩ : ∃ c : Nat, a1 = c := ⟨a1.toNat, by omega⟩
  obtain ⟨k, rfl⟩ : ∃ k : Nat, a2 = k := ⟨a2.toNat, by omega⟩
  by_cases hc : 2 ≤ c
  · exact dp_noC n w0 c k (by omega) (by omega) hc w hT
  · by_cases hk : k < 1
    · exact dp_noL n w0 c k (by omega) (by omega) (by omega) hk w hT
    · by_cases hk5 : 5 < k
      · exact dp_noH n w0 c k (by omega) (by omega) (by omega) hk5 w hT
      · have hcc : c = 0 ∨ c = 1 := by omega
        rcases hcc with rfl | rfl
        · have hk8 := kind_pock 0 k (by decide) (by omega)
          rw [show 66 + 6 * 0 + k = 66 + k by omega] at hk8
          obtain ⟨z0, z1⟩ := w0.u8 (66 + k) (by omega) hk8
          by_cases h1 : n (66 + k) = 0
          · exact dp_Z0 n w0 k (by omega) (by omega) h1 w hT
          · by_cases h2 : n (66 + k) < 255
            · exact dp_M0 n w0 k (by omega) (by omega) h1 h2 w hT
            · exact dp_F0 n w0 k (by omega) (by omega) (by omega) w hT
        · have hk8 := kind_pock 1 k (by decide) (by omega)
          rw [show 66 + 6 * 1 + k = 72 + k by omega] at hk8
          obtain ⟨z0, z1⟩ := w0.u8 (72 + k) (by omega) hk8
          by_cases h1 : n (72 + k) = 0
          · exact dp_Z1 n w0 k (by omega) (by omega) h1 w hT
          · by_cases h2 : n (72 + k) < 255
            · exact dp_M1 n w0 k (by omega) (by omega) h1 h2 w hT
            · exact dp_F1 n w0 k (by omega) (by omega) (by omega) w hT


end Go.Proofs.YtkkabacdiefabaaDoor
