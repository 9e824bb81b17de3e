/- The walk of DropBack (written by gen_dback.py). -/
import Derived.Test.YtkkabacdiefabaaDoorDA
import Derived.Test.YtkkabacdiefabaaDoorAwD
namespace Go.Proofs.YtkkabacdiefabaaDoor
open Go Go.RowKit
set_option linter.unusedVariables false

theorem keepB3 {X W : World} {g1 g2 g3 : Nat} {n a b : Nat → Int} (h1 : PosAt X g1 n) (h2 : PosAt X g2 a) (h3 : PosAt X g3 b) (hb : Below X.heap.size X W) :
    (IsPos W g1 ∧ rowOf W g1 = posA n) ∧ (IsPos W g2 ∧ rowOf W g2 = posA a) ∧ (IsPos W g3 ∧ rowOf W g3 = posA b) ∧ Below X.heap.size X W :=
  ⟨(h1.below hb h1.lt).rules, (h2.below hb h2.lt).rules, (h3.below hb h3.lt).rules, hb⟩


set_option maxRecDepth 100000 in
set_option maxHeartbeats 4000000 in
theorem db_same (n : Nat → Int) (hn : PosOk n) (c k v t : Nat) (hv : n 0 = v) (ht : n 78 = t) (hv9 : v ≤ 255) (hc : c ≤ 255) (hk : k ≤ 255) (h : addB n c k = false) (w : World) (hT : Tab w) :
    Calls Tryd.prog 7 #[.agg (posA n), .int .u8 (c : Int), .int .u8 (k : Int)] w fun e w' => e = .returned (.bool true) ∧ Below w.heap.size w w' := by
  have hae : addN n c k = n := by unfold addN; rw [h]; rfl
  have HADD := fun W => add_any n hn c k hc hk W
  rw [hae] at HADD
  obtain ⟨a, ha⟩ : ∃ a, n = a := ⟨_, rfl⟩
  have GA : Hid (∀ W, Calls Tryd.prog 17 #[.agg (posA n), .int .u8 (c : Int), .int .u8 (k : Int)] W fun e w' => e = .returned (.agg (posA n)) ∧ Below W.heap.size W w') := HADD
  have EA := eqP_self n
  clear HADD hae h ha a
  have HT0 := hideIt hT
  have GD : Hid (v ≠ 2 → ∀ W, Calls Tryd.prog 10 #[.agg (posA n)] W fun e w' => e = .returned (.slice none 0 0) ∧ Below W.heap.size W w') := fun h W => drop_none n hn v t hv ht hv9 (fun h2 => h h2.2) W
  have HV0 := hideIt hv
  obtain ⟨X, hX⟩ : ∃ X, w.alloc (.cells (posA n) 31) = X := ⟨_, rfl⟩
  obtain ⟨p0, hb⟩ := box1 w n X hX
  have HX := hideIt hX
  have hzp := zeroPos
  obtain ⟨i0, r0⟩ := p0.rules
  clear hX hT hv ht
  go_enter Tryd.func7, Tryd.ntmps7
  go_wp2_with (rw [HX.out])
  refine (GA.out _).mono ?_
  rintro e Y ⟨rfl, h1⟩
  have pY := p0.below h1 p0.lt
  have hbY := hb.trans (h1.mono hb.size)
  clear h1 i0 r0 p0 hb
  obtain ⟨V, hV⟩ : ∃ V, (Y.alloc (.cells (posA zeroN) 31)).setRow Y.heap.size (posA n) = V := ⟨_, rfl⟩
  have hV2 : Y.alloc (.cells (posA n) 31) = V := by rw [← hV, World.setRow_alloc_new]
  have pV : PosAt V w.heap.size n := by rw [← hV2]; exact pY.alloc _
  have aV : PosAt V Y.heap.size n := by rw [← hV2]; exact PosAt.new Y _
  have hbV : Below w.heap.size w V := by rw [← hV2]; exact hbY.alloc hbY.size _
  obtain ⟨g1, hg⟩ : ∃ g, Y.heap.size = g := ⟨_, rfl⟩
  rw [hg] at aV
  have HV := hideIt hV
  have HG := hideIt hg
  obtain ⟨i0, r0⟩ := pV.rules
  obtain ⟨i1, r1⟩ := aV.rules
  clear hV hV2 hg pY hbY

  have c0 : V.cell? ⟨w.heap.size, 0, none⟩ = some (.int .u8 v) := by rw [pV.cell 0 (by decide), HV0.out]; rfl
  by_cases h2 : v = 2
  · have d2 : ((v : Int) == 2) = true := beq_iff_eq.2 (by omega)
    have hTE := HT0.out.below hbV (Nat.le_refl _)
    clear h2
    go_wp2_with (rw [HV.out, HG.out])
    refine (awakeD_any _ hTE).mono ?_
    rintro e w9 ⟨rfl, h1⟩
    have hbE := hbV.trans (h1.mono hbV.size)
    clear h1 hTE
    go_wp2
    go_ret
    exact ⟨rfl, hbE⟩
  · have d2 : ((v : Int) == 2) = false := beq_eq_false_iff_ne.2 (by omega)
    have G2 := hideIt (GD.out h2)
    obtain ⟨i8, r8⟩ := pV.rules
    clear h2
    go_wp2_with (rw [HV.out, HG.out])
    refine (G2.out _).mono ?_
    rintro e w8 ⟨rfl, h1⟩
    have hbD := hbV.trans (h1.mono hbV.size)
    have hTE := HT0.out.below hbD (Nat.le_refl _)
    clear h1 i8 r8 c0
    go_wp2_with fail
    refine (awakeD_any _ hTE).mono ?_
    rintro e w9 ⟨rfl, h1⟩
    have hbE := hbD.trans (h1.mono hbD.size)
    clear h1 hTE
    go_wp2
    go_ret
    exact ⟨rfl, hbE⟩

set_option maxRecDepth 100000 in
set_option maxHeartbeats 4000000 in
theorem db_more (n : Nat → Int) (hn : PosOk n) (c k v t : Nat) (hv : n 0 = v) (ht : n 78 = t) (hv9 : v ≤ 255) (hc : c ≤ 255) (hk : k ≤ 255) (h : addB n c k = true) (w : World) (hT : Tab w) :
    Calls Tryd.prog 7 #[.agg (posA n), .int .u8 (c : Int), .int .u8 (k : Int)] w fun e w' => e = .returned (.bool true) ∧ Below w.heap.size w w' := by
  obtain ⟨f1, f2, f3, f4, f5⟩ := add_facts n hn c k h
  have aok := add_ok hn c k
  have HADD := fun W => add_any n hn c k hc hk W
  have HTAK := fun W => tak_any (addN n c k) aok c k hc hk W
  rw [f2, f3] at HTAK
  obtain ⟨b0, b1⟩ := hldI_bd n hn c
  obtain ⟨d0, d1⟩ := hldI_bd n hn 0
  obtain ⟨e0, e1⟩ := hldI_bd n hn 1
  have hmb : 0 ≤ menI n ∧ menI n ≤ 5000 := by
    have hl : cntB (allN n) ≤ 64 := listB_length _
    unfold menI; omega
  obtain ⟨m0, m1⟩ := hmb
  obtain ⟨s, hs⟩ : ∃ s, hldI n c = s := ⟨_, rfl⟩
  obtain ⟨m, hm⟩ : ∃ m, menI n = m := ⟨_, rfl⟩
  have F1 : Hid (∀ W, Calls Tryd.prog 13 #[.agg (posA n), .int .u8 (c : Int)] W fun e w' => e = .returned (.int .i64 s) ∧ Below W.heap.size W w') := fun W => by
    have := held15_any n hn c hc W
    rwa [hs] at this
  have F2 : Hid (∀ W, Calls Tryd.prog 13 #[.agg (posA (addN n c k)), .int .u8 (c : Int)] W fun e w' => e = .returned (.int .i64 (s + 1)) ∧ Below W.heap.size W w') := fun W => by
    have := held15_any _ aok c hc W
    rwa [f4, hs] at this
  have F3 : Hid (∀ W, Calls Tryd.prog 15 #[.agg (posA n)] W fun e w' => e = .returned (.int .i64 m) ∧ Below W.heap.size W w') := fun W => by
    have := men_any n hn W
    rwa [hm] at this
  have F4 : Hid (∀ W, Calls Tryd.prog 15 #[.agg (posA (addN n c k))] W fun e w' => e = .returned (.int .i64 (m + 1)) ∧ Below W.heap.size W w') := fun W => by
    have := men_any _ aok W
    rwa [f5, hm] at this
  rw [hs] at b0 b1
  rw [hm] at m0 m1
  obtain ⟨a, ha⟩ : ∃ a, addN n c k = a := ⟨_, rfl⟩
  rw [ha] at HADD HTAK aok f1 F2 F4
  have GA : Hid (∀ W, Calls Tryd.prog 17 #[.agg (posA n), .int .u8 (c : Int), .int .u8 (k : Int)] W fun e w' => e = .returned (.agg (posA a)) ∧ Below W.heap.size W w') := HADD
  have GB : Hid (∀ W, Calls Tryd.prog 18 #[.agg (posA a), .int .u8 (c : Int), .int .u8 (k : Int)] W fun e w' => e = .returned (.tuple #[.agg (posA n), .bool true]) ∧ Below W.heap.size W w') := HTAK
  have EA := eqP_self n
  clear HADD HTAK f2 f3 f4 f5 hs hm ha h d0 d1 e0 e1
  have HT0 := hideIt hT
  have GD : Hid (v ≠ 2 → ∀ W, Calls Tryd.prog 10 #[.agg (posA n)] W fun e w' => e = .returned (.slice none 0 0) ∧ Below W.heap.size W w') := fun h W => drop_none n hn v t hv ht hv9 (fun h2 => h h2.2) W
  have HV0 := hideIt hv
  obtain ⟨X, hX⟩ : ∃ X, w.alloc (.cells (posA n) 31) = X := ⟨_, rfl⟩
  obtain ⟨p0, hb⟩ := box1 w n X hX
  have HX := hideIt hX
  have hzp := zeroPos
  obtain ⟨i0, r0⟩ := p0.rules
  clear hX hT hv ht
  go_enter Tryd.func7, Tryd.ntmps7
  go_wp2_with (rw [HX.out])
  refine (GA.out _).mono ?_
  rintro e Y ⟨rfl, h1⟩
  have pY := p0.below h1 p0.lt
  have hbY := hb.trans (h1.mono hb.size)
  clear h1 i0 r0 p0 hb
  obtain ⟨V, hV⟩ : ∃ V, (Y.alloc (.cells (posA zeroN) 31)).setRow Y.heap.size (posA a) = V := ⟨_, rfl⟩
  have hV2 : Y.alloc (.cells (posA a) 31) = V := by rw [← hV, World.setRow_alloc_new]
  have pV : PosAt V w.heap.size n := by rw [← hV2]; exact pY.alloc _
  have aV : PosAt V Y.heap.size a := by rw [← hV2]; exact PosAt.new Y _
  have hbV : Below w.heap.size w V := by rw [← hV2]; exact hbY.alloc hbY.size _
  obtain ⟨g1, hg⟩ : ∃ g, Y.heap.size = g := ⟨_, rfl⟩
  rw [hg] at aV
  have HV := hideIt hV
  have HG := hideIt hg
  obtain ⟨i0, r0⟩ := pV.rules
  obtain ⟨i1, r1⟩ := aV.rules
  clear hV hV2 hg pY hbY

  go_wp2_with (rw [HV.out, HG.out])
  refine (GB.out _).mono ?_
  rintro e Z ⟨rfl, h1⟩
  have pZ := pV.below h1 pV.lt
  have aZ := aV.below h1 aV.lt
  have hbZ := hbV.trans (h1.mono hbV.size)
  clear h1 i0 r0 i1 r1 pV aV hbV HV HG f1
  obtain ⟨V2, hV⟩ : ∃ V, (Z.alloc (.cells (posA zeroN) 31)).setRow Z.heap.size (posA n) = V := ⟨_, rfl⟩
  have hV2 : Z.alloc (.cells (posA n) 31) = V2 := by rw [← hV, World.setRow_alloc_new]
  have pW : PosAt V2 w.heap.size n := by rw [← hV2]; exact pZ.alloc _
  have aW : PosAt V2 g1 a := by rw [← hV2]; exact aZ.alloc _
  have bW : PosAt V2 Z.heap.size n := by rw [← hV2]; exact PosAt.new Z _
  have hbW : Below w.heap.size w V2 := by rw [← hV2]; exact hbZ.alloc hbZ.size _
  obtain ⟨g2, hg⟩ : ∃ g, Z.heap.size = g := ⟨_, rfl⟩
  rw [hg] at bW
  have HV := hideIt hV
  have HG := hideIt hg
  clear hV hV2 hg pZ aZ hbZ
  go_wp2_with (rw [HV.out, HG.out])
  have W1 := IntWalk.i64_in (s + 1) (by omega)
  have W2 := IntWalk.i64_in (m + 1) (by omega)
  go_region_held3 (fun W => (IsPos W w.heap.size ∧ rowOf W w.heap.size = posA n) ∧ (IsPos W g1 ∧ rowOf W g1 = posA a) ∧ (IsPos W g2 ∧ rowOf W g2 = posA n) ∧ Below V2.heap.size V2 W) ((refine keepB3 pW aW bW ?_; repeat (first | exact Below.refl _ _ | assumption | refine bl_drew ?_ | refine bl_new ?_ (Nat.le_refl _) | refine bl_then ?_ (by assumption)))) ((first | (go_at_call_of 13 (Value.agg (posA n)); refine (F1.out _).mono ?_; rintro e w31 ⟨rfl, h1⟩) | (go_at_call 13; refine (F2.out _).mono ?_; rintro e w31 ⟨rfl, h1⟩) | (go_at_call_of 15 (Value.agg (posA n)); refine (F3.out _).mono ?_; rintro e w31 ⟨rfl, h1⟩) | (go_at_call 15; refine (F4.out _).mono ?_; rintro e w31 ⟨rfl, h1⟩)))
  all_goals
    have hq := And.right (And.right (And.right ‹(IsPos _ _ ∧ _) ∧ _ ∧ _ ∧ Below V2.heap.size V2 _›))
    clear W1 W2
    have pE := pW.below hq pW.lt
    have hbF := hbW.trans (hq.mono hbW.size)
    clear aW bW
    have c0 := pE.cell 0 (by decide)
    rw [HV0.out, show kindAt 0 = IntKind.u8 from rfl] at c0
    by_cases h2 : v = 2
    · have d2 : ((v : Int) == 2) = true := beq_iff_eq.2 (by omega)
      have hTE := HT0.out.below hbF (Nat.le_refl _)
      clear h2
      go_wp2_with fail
      refine (awakeD_any _ hTE).mono ?_
      rintro e w9 ⟨rfl, h1⟩
      have hbE := hbF.trans (h1.mono hbF.size)
      clear h1 hTE
      go_wp2
      go_ret
      exact ⟨rfl, hbE⟩
    · have d2 : ((v : Int) == 2) = false := beq_eq_false_iff_ne.2 (by omega)
      have G2 := hideIt (GD.out h2)
      obtain ⟨i8, r8⟩ := pE.rules
      clear h2
      go_wp2_with fail
      refine (G2.out _).mono ?_
      rintro e w8 ⟨rfl, h1⟩
      have hbD := hbF.trans (h1.mono hbF.size)
      have hTE := HT0.out.below hbD (Nat.le_refl _)
      clear h1 i8 r8 c0
      go_wp2_with fail
      refine (awakeD_any _ hTE).mono ?_
      rintro e w9 ⟨rfl, h1⟩
      have hbE := hbD.trans (h1.mono hbD.size)
      clear h1 hTE
      go_wp2
      go_ret
      exact ⟨rfl, hbE⟩



theorem dropBack_walk (n : Nat → Int) (a1 a2 : Int) (w0 : PosOk n) (w1 : (Lit.int .u8 a1).wf = true) (w2 : (Lit.int .u8 a2).wf = true) (w : World) (hT : Tab w) :
    Calls Tryd.prog 7 #[.agg (posA n), .int .u8 a1, .int .u8 a2] w fun e w' => e = .returned (.bool true) ∧ Below w.heap.size w w' := by
  obtain ⟨x0, x1⟩ := wf_u8 w1
  obtain ⟨y0, y1⟩ := wf_u8 w2
  obtain ⟨c, rfl⟩ : ∃ c : Nat, a1 = c := ⟨a1.toNat, by omega⟩
  obtain ⟨k, rfl⟩ : ∃ k : Nat, a2 = k := ⟨a2.toNat, by omega⟩
  obtain ⟨z0, z1⟩ := w0.u8 0 (by decide) rfl
  obtain ⟨y0, y1⟩ := w0.u8 78 (by decide) rfl
  obtain ⟨v, hv⟩ : ∃ v : Nat, n 0 = v := ⟨(n 0).toNat, by omega⟩
  obtain ⟨t, ht⟩ : ∃ t : Nat, n 78 = t := ⟨(n 78).toNat, by omega⟩
  cases h : addB n c k with
  | false => exact db_same n w0 c k v t hv ht (by omega) (by omega) (by omega) h w hT
  | true => exact db_more n w0 c k v t hv ht (by omega) (by omega) (by omega) h w hT


end Go.Proofs.YtkkabacdiefabaaDoor
