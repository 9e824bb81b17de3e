/- The walk of EvalHeld (written by gen_eheld.py). -/
import Derived.Test.YtccdelpiflcipaaDoorAwE
import Derived.Test.YtccdelpiflcipaaDoorEG
import Derived.Deep.RegionHeld3
namespace Go.Proofs.YtccdelpiflcipaaDoor
open Go Go.RowKit
set_option linter.unusedVariables false

theorem hd_ok {p : Nat → Int} (hp : PosOk p) (c k : Nat) (x y : Int) (hc : c ≤ 1) (hk : k < 6) (x0 : 0 ≤ x) (x1 : x ≤ 255) (y0 : 0 ≤ y) (y1 : y ≤ 255) : PosOk (hdN p c k x y) := by
  have u8wf : ∀ z : Int, 0 ≤ z → z ≤ 255 → (Lit.int .u8 z).wf = true := fun z h0 h1 => by
    simp [Lit.wf]
    have e1 : IntKind.u8.min = 0 := by decide
    have e2 : IntKind.u8.max = 255 := by decide
    omega
  intro i hi
  show (Lit.int (kindAt i) (upd (upd p (66 + 6 * c + k) x) (84 + c) y i)).wf = true
  simp only [upd]
  split
  · rename_i h
    have hkk : kindAt i = .u8 := by unfold kindAt; rw [if_neg (by omega), if_neg (by omega), if_neg (by omega), if_neg (by omega), if_pos (by omega)]
    rw [hkk]; exact u8wf y y0 y1
  · split
    · rename_i h
      have hkk : kindAt i = .u8 := by unfold kindAt; rw [if_neg (by omega), if_neg (by omega), if_pos (by omega)]
      rw [hkk]; exact u8wf x x0 x1
    · exact hp i hi
theorem PosAt.setH {w : World} {g : Nat} {n : Nat → Int} (h : PosAt w g n) (i : Nat) (x : Int) {k : IntKind} (hk : k = kindAt i) : PosAt (w.setCell ⟨g, i, none⟩ (.int k x)) g (upd n i x) := by
  subst hk; exact h.set i x
theorem keepH {X W : World} {g q : Nat} {n m : Nat → Int} (h : PosAt X g n) (k : PosAt X q m) (hT : Tab X) (hb : Below X.heap.size X W) :
    (IsPos W g ∧ rowOf W g = posA n) ∧ (IsPos W q ∧ rowOf W q = posA m) ∧ Tab W ∧ Below X.heap.size X W :=
  ⟨(h.below hb h.lt).rules, (k.below hb k.lt).rules, hT.below hb (Nat.le_refl _), hb⟩
theorem keepC1 {X W : World} {g i : Nat} {v : Value} (h : X.cell? ⟨g, i, none⟩ = some v) (hg : g < X.heap.size) (hb : Below X.heap.size X W) : W.cell? ⟨g, i, none⟩ = some v ∧ Below X.heap.size X W :=
  ⟨(hb.cell (p := ⟨g, i, none⟩) hg).trans h, hb⟩
theorem worth_bdH (n : Nat → Int) (hn : PosOk n) (v c : Nat) : -11000000 ≤ worthI n v c ∧ worthI n v c ≤ 11000000 := side_bd n hn v c


set_option maxRecDepth 100000 in
set_option maxHeartbeats 8000000 in
theorem evalHeld_0 (p : Nat → Int) (a1 a2 x y : Int) (k v : Nat) (hp : PosOk p) (hv : p 0 = v) (hv9 : v ≤ 255) (h1c : a1 % 2 = 0) (h2k : a2 % 6 = (k : Int)) (hk : k < 6) (a10 : 0 ≤ a1) (a11 : a1 ≤ 255) (a20 : 0 ≤ a2) (a21 : a2 ≤ 255) (x0 : 0 ≤ x) (x1 : x ≤ 255) (y0 : 0 ≤ y) (y1 : y ≤ 255) (w : World) (hT : Tab w) :
    Calls Tryd.prog 5 #[.agg (posA p), .int .u8 a1, .int .u8 a2, .int .u8 x, .int .u8 y] w fun e w' => e = .returned (.bool true) ∧ Below w.heap.size w w' := by
  have hx := hd_ok hp 0 k x y (by decide) hk x0 x1 y0 y1
  have hxv : hdN p 0 k x y 0 = v := by
    rw [← hv]; unfold hdN; show upd _ _ _ _ = _; unfold upd; rw [if_neg (by omega)]; show upd _ _ _ _ = _; unfold upd; rw [if_neg (by omega)]
  have hwo := hd_worth p v 0 k x y (by decide) hk
  have hws := hd_same p v 0 k x y (by decide) hk
  obtain ⟨b0, b1⟩ := worth_bdH p hp v 0
  obtain ⟨b, hb⟩ : ∃ b, worthI p v 0 = b := ⟨_, rfl⟩
  obtain ⟨s, hs⟩ : ∃ s, worthI p v 1 = s := ⟨_, rfl⟩
  obtain ⟨b', hb'⟩ : ∃ b', worthI (hdN p 0 k x y) v 0 = b' := ⟨_, rfl⟩
  have hks : (66 : Nat) + 6 * 0 + k = 66 + k := by omega
  rw [hb, hb', hks] at hwo
  rw [show (1 : Nat) - 0 = 1 from rfl, hs] at hws
  rw [hb] at b0 b1
  have H8 : kindAt (66 + k) = .u8 := by
    unfold kindAt
    rw [if_neg (by omega), if_neg (by omega), if_pos (by omega)]
  obtain ⟨q0, q1⟩ := hp.u8 (66 + k) (by omega) H8
  obtain ⟨r0, r1⟩ := hp.u8 84 (by omega) rfl
  obtain ⟨u, hu⟩ : ∃ u, p (66 + k) = u := ⟨_, rfl⟩
  obtain ⟨z, hz⟩ : ∃ z, p 84 = z := ⟨_, rfl⟩
  obtain ⟨wo, hwv⟩ : ∃ wo, wortI (k : Int) = wo := ⟨_, rfl⟩
  obtain ⟨g0, g1⟩ := wort_bd (k : Int)
  rw [hu, hwv, show (84 : Nat) + 0 = 84 from rfl, hz] at hwo
  rw [hu] at q0 q1
  rw [hz] at r0 r1
  rw [hwv] at g0 g1
  have m1 : -(900 * 255) ≤ wo * (x - u) := by
    have := Int.mul_le_mul_of_nonneg_left (show -255 ≤ x - u by omega) g0
    have h2 : wo * -255 = -(wo * 255) := Int.mul_neg wo 255
    omega
  have m2 : wo * (x - u) ≤ 900 * 255 := by
    have := Int.mul_le_mul_of_nonneg_left (show x - u ≤ 255 by omega) g0
    omega
  have SQ : Hid (∀ W, Tab W → Calls Tryd.prog 13 #[.agg (posA (hdN p 0 k x y)), .int .u8 0] W fun e w' => e = .returned (.int .i64 b') ∧ Below W.heap.size W w') := fun W hW => by
    have := side_any _ hx v 0 hxv hv9 (by decide) W hW
    rwa [hb'] at this
  have SR : Hid (∀ W, Tab W → Calls Tryd.prog 13 #[.agg (posA (hdN p 0 k x y)), .int .u8 1] W fun e w' => e = .returned (.int .i64 s) ∧ Below W.heap.size W w') := fun W hW => by
    have := side_any _ hx v 1 hxv hv9 (by decide) W hW
    rwa [hws] at this
  have SP : Hid (∀ W, Tab W → Calls Tryd.prog 13 #[.agg (posA p), .int .u8 0] W fun e w' => e = .returned (.int .i64 b) ∧ Below W.heap.size W w') := fun W hW => by
    have := side_any _ hp v 0 hv hv9 (by decide) W hW
    rwa [hb] at this
  have SS : Hid (∀ W, Tab W → Calls Tryd.prog 13 #[.agg (posA p), .int .u8 1] W fun e w' => e = .returned (.int .i64 s) ∧ Below W.heap.size W w') := fun W hW => by
    have := side_any _ hp v 1 hv hv9 (by decide) W hW
    rwa [hs] at this
  have GP : Hid (∀ W, Calls Tryd.prog 9 #[.int .u8 (k : Int)] W fun e w' => e = .returned (.int .i64 wo) ∧ Below W.heap.size W w') := fun W => by
    have := piece_any k (by omega) W
    rwa [hwv] at this
  have HW := hideIt hwo
  clear hx hxv hwo hws hb hs hb' hks hwv
  obtain ⟨X, hX⟩ : ∃ X, w.alloc (.cells (posA p) 31) = X := ⟨_, rfl⟩
  obtain ⟨p0, hb⟩ := box1 w p X hX
  have HX := hideIt hX
  have HTX := hideIt (hT.below hb (Nat.le_refl _))
  have HT0 := hideIt hT
  have HU := hideIt hu
  have HZ := hideIt hz
  have HV0 := hideIt hv
  have HH8 := hideIt H8
  have H1 := hideIt h1c
  have H2 := hideIt h2k
  clear hX hT hu hz hv H8 h1c h2k
  go_enter Tryd.func5, Tryd.ntmps5
  go_wp2_with (rw [HX.out])
  refine (awakeE_any _ HTX.out).mono ?_
  rintro e Y ⟨rfl, h1⟩
  have p1 := p0.below h1 p0.lt
  have hb1 := hb.trans (h1.mono hb.size)
  clear h1 p0 hb HTX
  obtain ⟨V, hV⟩ : ∃ V, (Y.alloc (.cells (posA zeroN) 31)).setRow Y.heap.size (posA p) = V := ⟨_, rfl⟩
  have hV2 : Y.alloc (.cells (posA p) 31) = V := by rw [← hV, World.setRow_alloc_new]
  have pV : PosAt V w.heap.size p := by rw [← hV2]; exact p1.alloc _
  have xV : PosAt V Y.heap.size p := by rw [← hV2]; exact PosAt.new Y _
  have hbV : Below w.heap.size w V := by rw [← hV2]; exact hb1.alloc hb1.size _
  have hg1 := p1.lt
  obtain ⟨g, hg⟩ : ∃ g, Y.heap.size = g := ⟨_, rfl⟩
  rw [hg] at xV hg1
  have n1 : ¬ g = w.heap.size := by omega
  have n2 : ¬ w.heap.size = g := by omega
  obtain ⟨U, hU⟩ : ∃ U, (V.setCell ⟨g, 66 + k, none⟩ (.int .u8 x)).setCell ⟨g, 84, none⟩ (.int .u8 y) = U := ⟨_, rfl⟩
  have pU : PosAt U w.heap.size p := by rw [← hU]; exact (pV.other n1 _).other n1 _
  have xU : PosAt U g (hdN p 0 k x y) := by
    rw [← hU]
    have := (xV.setH (66 + k) x (k := .u8) HH8.out.symm).setH 84 y (k := .u8) rfl
    unfold hdN
    rwa [show (66 : Nat) + 6 * 0 + k = 66 + k by omega]
  have hle : w.heap.size ≤ g := by omega
  have hbU : Below w.heap.size w U := by
    rw [← hU]
    exact Below.setCell (p := ⟨g, 84, none⟩) (Below.setCell (p := ⟨g, 66 + k, none⟩) hbV hle _) hle _
  have hTU : Tab U := HT0.out.below hbU (Nat.le_refl _)
  have cg : V.cell? ⟨g, 66 + k, none⟩ = some (.int .u8 u) := by rw [xV.cell (66 + k) (by omega), HH8.out, HU.out]
  have cz : V.cell? ⟨g, 84, none⟩ = some (.int .u8 z) := by rw [xV.cell 84 (by omega), HZ.out]; rfl
  have fg := xV.free (66 + k)
  have fz := xV.free 84
  have HV := hideIt hV
  have HG := hideIt hg
  have HUU := hideIt hU
  have hl1 : (0 : Int) ≤ (k : Int) := by omega
  have hl2 : (k : Int) < 6 := by omega
  obtain ⟨i0, r00⟩ := p1.rules
  obtain ⟨i1, r11⟩ := pU.rules
  have hzp := zeroPos
  have e1 := H1.out
  have e2 := H2.out
  clear hV hV2 hg hU pV xV hbV p1 hb1
  go_wp2_with (first | rw [HV.out, HG.out] | rw [HUU.out])
  try rw [H1.out]
  try rw [H2.out]
  refine (SP.out _ hTU).mono ?_
  rintro e Z ⟨rfl, h1⟩
  have pZ := pU.below h1 pU.lt
  have xZ := xU.below h1 xU.lt
  have hbZ := hbU.trans (h1.mono hbU.size)
  have hTZ := HT0.out.below hbZ (Nat.le_refl _)
  clear h1 i0 r00 i1 r11 cg cz fg fz HV HG HUU hTU pU xU hbU SP e1 e2
  have c0 : Z.cell? ⟨w.heap.size, 0, none⟩ = some (.int .u8 v) := by rw [pZ.cell 0 (by decide), HV0.out]; rfl
  have cu : Z.cell? ⟨w.heap.size, 66 + k, none⟩ = some (.int .u8 u) := by rw [pZ.cell (66 + k) (by omega), HH8.out, HU.out]
  have cz : Z.cell? ⟨w.heap.size, 84, none⟩ = some (.int .u8 z) := by rw [pZ.cell 84 (by omega), HZ.out]; rfl
  have W0 : IntKind.u8.wrap 1 = 1 := by decide
  by_cases v2 : v = 2
  · have d2 : ((v : Int) == 2) = true := beq_iff_eq.2 (by omega)
    have d5 : ((v : Int) == 5) = false := beq_eq_false_iff_ne.2 (by omega)
    have hE : b' = b + wo * (x - u) := by rw [HW.out, if_pos v2, if_neg (by omega), Int.add_zero]
    have HE := hideIt hE
    clear v2 hE
    go_wp2
    have W1 : IntKind.i64.wrap x = x := IntWalk.i64_in x (by omega)
    have W2 : IntKind.i64.wrap u = u := IntWalk.i64_in u (by omega)
    have W3 : IntKind.i64.wrap (x - u) = x - u := IntWalk.i64_in (x - u) (by omega)
    have W4 : IntKind.i64.wrap (wo * (x - u)) = wo * (x - u) := IntWalk.i64_in _ (by omega)
    have W5 : IntKind.i64.wrap (b + wo * (x - u)) = b + wo * (x - u) := IntWalk.i64_in _ (by omega)
    have hpl := pZ.lt
    go_region_held3 (fun W => W.cell? ⟨w.heap.size, 66 + k, none⟩ = some (.int .u8 u) ∧ Below Z.heap.size Z W) ((refine keepC1 cu hpl ?_; repeat (first | exact Below.refl _ _ | assumption | refine bl_drew ?_ | refine bl_new ?_ (Nat.le_refl _) | refine bl_then ?_ (by assumption)))) ((go_at_call 9; refine (GP.out _).mono ?_; rintro e w31 ⟨rfl, h1⟩))
    all_goals
      have hq := And.right ‹_ ∧ Below Z.heap.size Z _›
      clear W1 W2 W3 W4 W5
      have pR := pZ.below hq pZ.lt
      have xR := xZ.below hq xZ.lt
      have hbR := hbZ.trans (hq.mono hbZ.size)
      have hTR := HT0.out.below hbR (Nat.le_refl _)
      have c0 := pR.cell 0 (by decide)
      rw [HV0.out, show kindAt 0 = IntKind.u8 from rfl] at c0
      rw [← HE.out]
      clear m1 m2
      go_wp2
      go_region_held3 (fun W => (IsPos W g ∧ rowOf W g = posA (hdN p 0 k x y)) ∧ (IsPos W w.heap.size ∧ rowOf W w.heap.size = posA p) ∧ Tab W ∧ Below w31.heap.size w31 W) ((refine keepH xR pR hTR ?_; repeat (first | exact Below.refl _ _ | assumption | refine bl_drew ?_ | refine bl_new ?_ (Nat.le_refl _) | refine bl_then ?_ (by assumption)))) ((first | (go_at_call_of 13 (Value.int IntKind.u8 0); refine (SQ.out _ (And.left (And.right (And.right ‹(IsPos _ _ ∧ _) ∧ _ ∧ Tab _ ∧ _›)))).mono ?_; rintro e w41 ⟨rfl, h1⟩) | (go_at_call_of 13 (Value.agg (posA p)); refine (SS.out _ (And.left (And.right (And.right ‹(IsPos _ _ ∧ _) ∧ _ ∧ Tab _ ∧ _›)))).mono ?_; rintro e w41 ⟨rfl, h1⟩) | (go_at_call 13; refine (SR.out _ (And.left (And.right (And.right ‹(IsPos _ _ ∧ _) ∧ _ ∧ Tab _ ∧ _›)))).mono ?_; rintro e w41 ⟨rfl, h1⟩)))
      all_goals
        have hq2 := And.right (And.right (And.right ‹(IsPos _ _ ∧ _) ∧ _ ∧ Tab _ ∧ Below w31.heap.size w31 _›))
        go_wp2
        go_ret
        exact ⟨rfl, hbR.trans (hq2.mono hbR.size)⟩
  · have d2 : ((v : Int) == 2) = false := beq_eq_false_iff_ne.2 (by omega)
    by_cases v5 : v = 5
    · have d5 : ((v : Int) == 5) = true := beq_iff_eq.2 (by omega)
      have hE : b' = b + 150 * (y - z) := by rw [HW.out, if_neg v2, if_pos v5, Int.add_zero]
      clear v2 v5 m1 m2 cu
      rw [hE] at SQ
      have W1 : IntKind.i64.wrap y = y := IntWalk.i64_in y (by omega)
      have W2 : IntKind.i64.wrap z = z := IntWalk.i64_in z (by omega)
      go_wp2
      go_region_held3 (fun W => (IsPos W g ∧ rowOf W g = posA (hdN p 0 k x y)) ∧ (IsPos W w.heap.size ∧ rowOf W w.heap.size = posA p) ∧ Tab W ∧ Below Z.heap.size Z W) ((refine keepH xZ pZ hTZ ?_; repeat (first | exact Below.refl _ _ | assumption | refine bl_drew ?_ | refine bl_new ?_ (Nat.le_refl _) | refine bl_then ?_ (by assumption)))) ((first | (go_at_call_of 13 (Value.int IntKind.u8 0); refine (SQ.out _ (And.left (And.right (And.right ‹(IsPos _ _ ∧ _) ∧ _ ∧ Tab _ ∧ _›)))).mono ?_; rintro e w41 ⟨rfl, h1⟩) | (go_at_call_of 13 (Value.agg (posA p)); refine (SS.out _ (And.left (And.right (And.right ‹(IsPos _ _ ∧ _) ∧ _ ∧ Tab _ ∧ _›)))).mono ?_; rintro e w41 ⟨rfl, h1⟩) | (go_at_call 13; refine (SR.out _ (And.left (And.right (And.right ‹(IsPos _ _ ∧ _) ∧ _ ∧ Tab _ ∧ _›)))).mono ?_; rintro e w41 ⟨rfl, h1⟩)))
      all_goals
        have hq2 := And.right (And.right (And.right ‹(IsPos _ _ ∧ _) ∧ _ ∧ Tab _ ∧ Below Z.heap.size Z _›))
        go_wp2
        go_ret
        exact ⟨rfl, hbZ.trans (hq2.mono hbZ.size)⟩
    · have d5 : ((v : Int) == 5) = false := beq_eq_false_iff_ne.2 (by omega)
      have hE : b' = b := by rw [HW.out, if_neg v2, if_neg v5, Int.add_zero, Int.add_zero]
      clear v2 v5 m1 m2 cu cz
      rw [hE] at SQ
      go_wp2
      go_region_held3 (fun W => (IsPos W g ∧ rowOf W g = posA (hdN p 0 k x y)) ∧ (IsPos W w.heap.size ∧ rowOf W w.heap.size = posA p) ∧ Tab W ∧ Below Z.heap.size Z W) ((refine keepH xZ pZ hTZ ?_; repeat (first | exact Below.refl _ _ | assumption | refine bl_drew ?_ | refine bl_new ?_ (Nat.le_refl _) | refine bl_then ?_ (by assumption)))) ((first | (go_at_call_of 13 (Value.int IntKind.u8 0); refine (SQ.out _ (And.left (And.right (And.right ‹(IsPos _ _ ∧ _) ∧ _ ∧ Tab _ ∧ _›)))).mono ?_; rintro e w41 ⟨rfl, h1⟩) | (go_at_call_of 13 (Value.agg (posA p)); refine (SS.out _ (And.left (And.right (And.right ‹(IsPos _ _ ∧ _) ∧ _ ∧ Tab _ ∧ _›)))).mono ?_; rintro e w41 ⟨rfl, h1⟩) | (go_at_call 13; refine (SR.out _ (And.left (And.right (And.right ‹(IsPos _ _ ∧ _) ∧ _ ∧ Tab _ ∧ _›)))).mono ?_; rintro e w41 ⟨rfl, h1⟩)))
      all_goals
        have hq2 := And.right (And.right (And.right ‹(IsPos _ _ ∧ _) ∧ _ ∧ Tab _ ∧ Below Z.heap.size Z _›))
        go_wp2
        go_ret
        exact ⟨rfl, hbZ.trans (hq2.mono hbZ.size)⟩


set_option maxRecDepth 100000 in
set_option maxHeartbeats 8000000 in
theorem evalHeld_1 (p : Nat → Int) (a1 a2 x y : Int) (k v : Nat) (hp : PosOk p) (hv : p 0 = v) (hv9 : v ≤ 255) (h1c : a1 % 2 = 1) (h2k : a2 % 6 = (k : Int)) (hk : k < 6) (a10 : 0 ≤ a1) (a11 : a1 ≤ 255) (a20 : 0 ≤ a2) (a21 : a2 ≤ 255) (x0 : 0 ≤ x) (x1 : x ≤ 255) (y0 : 0 ≤ y) (y1 : y ≤ 255) (w : World) (hT : Tab w) :
    Calls Tryd.prog 5 #[.agg (posA p), .int .u8 a1, .int .u8 a2, .int .u8 x, .int .u8 y] w fun e w' => e = .returned (.bool true) ∧ Below w.heap.size w w' := by
  have hx := hd_ok hp 1 k x y (by decide) hk x0 x1 y0 y1
  have hxv : hdN p 1 k x y 0 = v := by
    rw [← hv]; unfold hdN; show upd _ _ _ _ = _; unfold upd; rw [if_neg (by omega)]; show upd _ _ _ _ = _; unfold upd; rw [if_neg (by omega)]
  have hwo := hd_worth p v 1 k x y (by decide) hk
  have hws := hd_same p v 1 k x y (by decide) hk
  obtain ⟨b0, b1⟩ := worth_bdH p hp v 1
  obtain ⟨b, hb⟩ : ∃ b, worthI p v 1 = b := ⟨_, rfl⟩
  obtain ⟨s, hs⟩ : ∃ s, worthI p v 0 = s := ⟨_, rfl⟩
  obtain ⟨b', hb'⟩ : ∃ b', worthI (hdN p 1 k x y) v 1 = b' := ⟨_, rfl⟩
  have hks : (66 : Nat) + 6 * 1 + k = 72 + k := by omega
  rw [hb, hb', hks] at hwo
  rw [show (1 : Nat) - 1 = 0 from rfl, hs] at hws
  rw [hb] at b0 b1
  have H8 : kindAt (72 + k) = .u8 := by
    unfold kindAt
    rw [if_neg (by omega), if_neg (by omega), if_pos (by omega)]
  obtain ⟨q0, q1⟩ := hp.u8 (72 + k) (by omega) H8
  obtain ⟨r0, r1⟩ := hp.u8 85 (by omega) rfl
  obtain ⟨u, hu⟩ : ∃ u, p (72 + k) = u := ⟨_, rfl⟩
  obtain ⟨z, hz⟩ : ∃ z, p 85 = z := ⟨_, rfl⟩
  obtain ⟨wo, hwv⟩ : ∃ wo, wortI (k : Int) = wo := ⟨_, rfl⟩
  obtain ⟨g0, g1⟩ := wort_bd (k : Int)
  rw [hu, hwv, show (84 : Nat) + 1 = 85 from rfl, hz] at hwo
  rw [hu] at q0 q1
  rw [hz] at r0 r1
  rw [hwv] at g0 g1
  have m1 : -(900 * 255) ≤ wo * (x - u) := by
    have := Int.mul_le_mul_of_nonneg_left (show -255 ≤ x - u by omega) g0
    have h2 : wo * -255 = -(wo * 255) := Int.mul_neg wo 255
    omega
  have m2 : wo * (x - u) ≤ 900 * 255 := by
    have := Int.mul_le_mul_of_nonneg_left (show x - u ≤ 255 by omega) g0
    omega
  have SQ : Hid (∀ W, Tab W → Calls Tryd.prog 13 #[.agg (posA (hdN p 1 k x y)), .int .u8 1] W fun e w' => e = .returned (.int .i64 b') ∧ Below W.heap.size W w') := fun W hW => by
    have := side_any _ hx v 1 hxv hv9 (by decide) W hW
    rwa [hb'] at this
  have SR : Hid (∀ W, Tab W → Calls Tryd.prog 13 #[.agg (posA (hdN p 1 k x y)), .int .u8 0] W fun e w' => e = .returned (.int .i64 s) ∧ Below W.heap.size W w') := fun W hW => by
    have := side_any _ hx v 0 hxv hv9 (by decide) W hW
    rwa [hws] at this
  have SP : Hid (∀ W, Tab W → Calls Tryd.prog 13 #[.agg (posA p), .int .u8 1] W fun e w' => e = .returned (.int .i64 b) ∧ Below W.heap.size W w') := fun W hW => by
    have := side_any _ hp v 1 hv hv9 (by decide) W hW
    rwa [hb] at this
  have SS : Hid (∀ W, Tab W → Calls Tryd.prog 13 #[.agg (posA p), .int .u8 0] W fun e w' => e = .returned (.int .i64 s) ∧ Below W.heap.size W w') := fun W hW => by
    have := side_any _ hp v 0 hv hv9 (by decide) W hW
    rwa [hs] at this
  have GP : Hid (∀ W, Calls Tryd.prog 9 #[.int .u8 (k : Int)] W fun e w' => e = .returned (.int .i64 wo) ∧ Below W.heap.size W w') := fun W => by
    have := piece_any k (by omega) W
    rwa [hwv] at this
  have HW := hideIt hwo
  clear hx hxv hwo hws hb hs hb' hks hwv
  obtain ⟨X, hX⟩ : ∃ X, w.alloc (.cells (posA p) 31) = X := ⟨_, rfl⟩
  obtain ⟨p0, hb⟩ := box1 w p X hX
  have HX := hideIt hX
  have HTX := hideIt (hT.below hb (Nat.le_refl _))
  have HT0 := hideIt hT
  have HU := hideIt hu
  have HZ := hideIt hz
  have HV0 := hideIt hv
  have HH8 := hideIt H8
  have H1 := hideIt h1c
  have H2 := hideIt h2k
  clear hX hT hu hz hv H8 h1c h2k
  go_enter Tryd.func5, Tryd.ntmps5
  go_wp2_with (rw [HX.out])
  refine (awakeE_any _ HTX.out).mono ?_
  rintro e Y ⟨rfl, h1⟩
  have p1 := p0.below h1 p0.lt
  have hb1 := hb.trans (h1.mono hb.size)
  clear h1 p0 hb HTX
  obtain ⟨V, hV⟩ : ∃ V, (Y.alloc (.cells (posA zeroN) 31)).setRow Y.heap.size (posA p) = V := ⟨_, rfl⟩
  have hV2 : Y.alloc (.cells (posA p) 31) = V := by rw [← hV, World.setRow_alloc_new]
  have pV : PosAt V w.heap.size p := by rw [← hV2]; exact p1.alloc _
  have xV : PosAt V Y.heap.size p := by rw [← hV2]; exact PosAt.new Y _
  have hbV : Below w.heap.size w V := by rw [← hV2]; exact hb1.alloc hb1.size _
  have hg1 := p1.lt
  obtain ⟨g, hg⟩ : ∃ g, Y.heap.size = g := ⟨_, rfl⟩
  rw [hg] at xV hg1
  have n1 : ¬ g = w.heap.size := by omega
  have n2 : ¬ w.heap.size = g := by omega
  obtain ⟨U, hU⟩ : ∃ U, (V.setCell ⟨g, 72 + k, none⟩ (.int .u8 x)).setCell ⟨g, 85, none⟩ (.int .u8 y) = U := ⟨_, rfl⟩
  have pU : PosAt U w.heap.size p := by rw [← hU]; exact (pV.other n1 _).other n1 _
  have xU : PosAt U g (hdN p 1 k x y) := by
    rw [← hU]
    have := (xV.setH (72 + k) x (k := .u8) HH8.out.symm).setH 85 y (k := .u8) rfl
    unfold hdN
    rwa [show (66 : Nat) + 6 * 1 + k = 72 + k by omega]
  have hle : w.heap.size ≤ g := by omega
  have hbU : Below w.heap.size w U := by
    rw [← hU]
    exact Below.setCell (p := ⟨g, 85, none⟩) (Below.setCell (p := ⟨g, 72 + k, none⟩) hbV hle _) hle _
  have hTU : Tab U := HT0.out.below hbU (Nat.le_refl _)
  have cg : V.cell? ⟨g, 72 + k, none⟩ = some (.int .u8 u) := by rw [xV.cell (72 + k) (by omega), HH8.out, HU.out]
  have cz : V.cell? ⟨g, 85, none⟩ = some (.int .u8 z) := by rw [xV.cell 85 (by omega), HZ.out]; rfl
  have fg := xV.free (72 + k)
  have fz := xV.free 85
  have HV := hideIt hV
  have HG := hideIt hg
  have HUU := hideIt hU
  have hl1 : (0 : Int) ≤ (k : Int) := by omega
  have hl2 : (k : Int) < 6 := by omega
  obtain ⟨i0, r00⟩ := p1.rules
  obtain ⟨i1, r11⟩ := pU.rules
  have hzp := zeroPos
  have e1 := H1.out
  have e2 := H2.out
  clear hV hV2 hg hU pV xV hbV p1 hb1
  go_wp2_with (first | rw [HV.out, HG.out] | rw [HUU.out])
  try rw [H1.out]
  try rw [H2.out]
  refine (SP.out _ hTU).mono ?_
  rintro e Z ⟨rfl, h1⟩
  have pZ := pU.below h1 pU.lt
  have xZ := xU.below h1 xU.lt
  have hbZ := hbU.trans (h1.mono hbU.size)
  have hTZ := HT0.out.below hbZ (Nat.le_refl _)
  clear h1 i0 r00 i1 r11 cg cz fg fz HV HG HUU hTU pU xU hbU SP e1 e2
  have c0 : Z.cell? ⟨w.heap.size, 0, none⟩ = some (.int .u8 v) := by rw [pZ.cell 0 (by decide), HV0.out]; rfl
  have cu : Z.cell? ⟨w.heap.size, 72 + k, none⟩ = some (.int .u8 u) := by rw [pZ.cell (72 + k) (by omega), HH8.out, HU.out]
  have cz : Z.cell? ⟨w.heap.size, 85, none⟩ = some (.int .u8 z) := by rw [pZ.cell 85 (by omega), HZ.out]; rfl
  have W0 : IntKind.u8.wrap 0 = 0 := by decide
  by_cases v2 : v = 2
  · have d2 : ((v : Int) == 2) = true := beq_iff_eq.2 (by omega)
    have d5 : ((v : Int) == 5) = false := beq_eq_false_iff_ne.2 (by omega)
    have hE : b' = b + wo * (x - u) := by rw [HW.out, if_pos v2, if_neg (by omega), Int.add_zero]
    have HE := hideIt hE
    clear v2 hE
    go_wp2
    have W1 : IntKind.i64.wrap x = x := IntWalk.i64_in x (by omega)
    have W2 : IntKind.i64.wrap u = u := IntWalk.i64_in u (by omega)
    have W3 : IntKind.i64.wrap (x - u) = x - u := IntWalk.i64_in (x - u) (by omega)
    have W4 : IntKind.i64.wrap (wo * (x - u)) = wo * (x - u) := IntWalk.i64_in _ (by omega)
    have W5 : IntKind.i64.wrap (b + wo * (x - u)) = b + wo * (x - u) := IntWalk.i64_in _ (by omega)
    have hpl := pZ.lt
    go_region_held3 (fun W => W.cell? ⟨w.heap.size, 72 + k, none⟩ = some (.int .u8 u) ∧ Below Z.heap.size Z W) ((refine keepC1 cu hpl ?_; repeat (first | exact Below.refl _ _ | assumption | refine bl_drew ?_ | refine bl_new ?_ (Nat.le_refl _) | refine bl_then ?_ (by assumption)))) ((go_at_call 9; refine (GP.out _).mono ?_; rintro e w31 ⟨rfl, h1⟩))
    all_goals
      have hq := And.right ‹_ ∧ Below Z.heap.size Z _›
      clear W1 W2 W3 W4 W5
      have pR := pZ.below hq pZ.lt
      have xR := xZ.below hq xZ.lt
      have hbR := hbZ.trans (hq.mono hbZ.size)
      have hTR := HT0.out.below hbR (Nat.le_refl _)
      have c0 := pR.cell 0 (by decide)
      rw [HV0.out, show kindAt 0 = IntKind.u8 from rfl] at c0
      rw [← HE.out]
      clear m1 m2
      go_wp2
      go_region_held3 (fun W => (IsPos W g ∧ rowOf W g = posA (hdN p 1 k x y)) ∧ (IsPos W w.heap.size ∧ rowOf W w.heap.size = posA p) ∧ Tab W ∧ Below w31.heap.size w31 W) ((refine keepH xR pR hTR ?_; repeat (first | exact Below.refl _ _ | assumption | refine bl_drew ?_ | refine bl_new ?_ (Nat.le_refl _) | refine bl_then ?_ (by assumption)))) ((first | (go_at_call_of 13 (Value.int IntKind.u8 1); refine (SQ.out _ (And.left (And.right (And.right ‹(IsPos _ _ ∧ _) ∧ _ ∧ Tab _ ∧ _›)))).mono ?_; rintro e w41 ⟨rfl, h1⟩) | (go_at_call_of 13 (Value.agg (posA p)); refine (SS.out _ (And.left (And.right (And.right ‹(IsPos _ _ ∧ _) ∧ _ ∧ Tab _ ∧ _›)))).mono ?_; rintro e w41 ⟨rfl, h1⟩) | (go_at_call 13; refine (SR.out _ (And.left (And.right (And.right ‹(IsPos _ _ ∧ _) ∧ _ ∧ Tab _ ∧ _›)))).mono ?_; rintro e w41 ⟨rfl, h1⟩)))
      all_goals
        have hq2 := And.right (And.right (And.right ‹(IsPos _ _ ∧ _) ∧ _ ∧ Tab _ ∧ Below w31.heap.size w31 _›))
        go_wp2
        go_ret
        exact ⟨rfl, hbR.trans (hq2.mono hbR.size)⟩
  · have d2 : ((v : Int) == 2) = false := beq_eq_false_iff_ne.2 (by omega)
    by_cases v5 : v = 5
    · have d5 : ((v : Int) == 5) = true := beq_iff_eq.2 (by omega)
      have hE : b' = b + 150 * (y - z) := by rw [HW.out, if_neg v2, if_pos v5, Int.add_zero]
      clear v2 v5 m1 m2 cu
      rw [hE] at SQ
      have W1 : IntKind.i64.wrap y = y := IntWalk.i64_in y (by omega)
      have W2 : IntKind.i64.wrap z = z := IntWalk.i64_in z (by omega)
      go_wp2
      go_region_held3 (fun W => (IsPos W g ∧ rowOf W g = posA (hdN p 1 k x y)) ∧ (IsPos W w.heap.size ∧ rowOf W w.heap.size = posA p) ∧ Tab W ∧ Below Z.heap.size Z W) ((refine keepH xZ pZ hTZ ?_; repeat (first | exact Below.refl _ _ | assumption | refine bl_drew ?_ | refine bl_new ?_ (Nat.le_refl _) | refine bl_then ?_ (by assumption)))) ((first | (go_at_call_of 13 (Value.int IntKind.u8 1); refine (SQ.out _ (And.left (And.right (And.right ‹(IsPos _ _ ∧ _) ∧ _ ∧ Tab _ ∧ _›)))).mono ?_; rintro e w41 ⟨rfl, h1⟩) | (go_at_call_of 13 (Value.agg (posA p)); refine (SS.out _ (And.left (And.right (And.right ‹(IsPos _ _ ∧ _) ∧ _ ∧ Tab _ ∧ _›)))).mono ?_; rintro e w41 ⟨rfl, h1⟩) | (go_at_call 13; refine (SR.out _ (And.left (And.right (And.right ‹(IsPos _ _ ∧ _) ∧ _ ∧ Tab _ ∧ _›)))).mono ?_; rintro e w41 ⟨rfl, h1⟩)))
      all_goals
        have hq2 := And.right (And.right (And.right ‹(IsPos _ _ ∧ _) ∧ _ ∧ Tab _ ∧ Below Z.heap.size Z _›))
        go_wp2
        go_ret
        exact ⟨rfl, hbZ.trans (hq2.mono hbZ.size)⟩
    · have d5 : ((v : Int) == 5) = false := beq_eq_false_iff_ne.2 (by omega)
      have hE : b' = b := by rw [HW.out, if_neg v2, if_neg v5, Int.add_zero, Int.add_zero]
      clear v2 v5 m1 m2 cu cz
      rw [hE] at SQ
      go_wp2
      go_region_held3 (fun W => (IsPos W g ∧ rowOf W g = posA (hdN p 1 k x y)) ∧ (IsPos W w.heap.size ∧ rowOf W w.heap.size = posA p) ∧ Tab W ∧ Below Z.heap.size Z W) ((refine keepH xZ pZ hTZ ?_; repeat (first | exact Below.refl _ _ | assumption | refine bl_drew ?_ | refine bl_new ?_ (Nat.le_refl _) | refine bl_then ?_ (by assumption)))) ((first | (go_at_call_of 13 (Value.int IntKind.u8 1); refine (SQ.out _ (And.left (And.right (And.right ‹(IsPos _ _ ∧ _) ∧ _ ∧ Tab _ ∧ _›)))).mono ?_; rintro e w41 ⟨rfl, h1⟩) | (go_at_call_of 13 (Value.agg (posA p)); refine (SS.out _ (And.left (And.right (And.right ‹(IsPos _ _ ∧ _) ∧ _ ∧ Tab _ ∧ _›)))).mono ?_; rintro e w41 ⟨rfl, h1⟩) | (go_at_call 13; refine (SR.out _ (And.left (And.right (And.right ‹(IsPos _ _ ∧ _) ∧ _ ∧ Tab _ ∧ _›)))).mono ?_; rintro e w41 ⟨rfl, h1⟩)))
      all_goals
        have hq2 := And.right (And.right (And.right ‹(IsPos _ _ ∧ _) ∧ _ ∧ Tab _ ∧ Below Z.heap.size Z _›))
        go_wp2
        go_ret
        exact ⟨rfl, hbZ.trans (hq2.mono hbZ.size)⟩


theorem evalHeld_walk (p : Nat → Int) (a1 a2 a3 a4 : Int) (w0 : PosOk p) (w1 : (Lit.int .u8 a1).wf = true) (w2 : (Lit.int .u8 a2).wf = true) (w3 : (Lit.int .u8 a3).wf = true) (w4 : (Lit.int .u8 a4).wf = true) (w : World) (hT : Tab w) :
    Calls Tryd.prog 5 #[.agg (posA p), .int .u8 a1, .int .u8 a2, .int .u8 a3, .int .u8 a4] w fun e w' => e = .returned (.bool true) ∧ Below w.heap.size w w' := by
  obtain ⟨x0, x1⟩ := wf_u8 w1
  obtain ⟨y0, y1⟩ := wf_u8 w2
  obtain ⟨s0, s1⟩ := wf_u8 w3
  obtain ⟨t0, t1⟩ := wf_u8 w4
  obtain ⟨z0, z1⟩ := w0.u8 0 (by decide) rfl
  obtain ⟨v, hv⟩ : ∃ v : Nat, p 0 = v := ⟨(p 0).toNat, by omega⟩
  obtain ⟨k, hk⟩ : ∃ k : Nat, a2 % 6 = k := ⟨(a2 % 6).toNat, by omega⟩
  have hc : a1 % 2 = 0 ∨ a1 % 2 = 1 := by omega
  rcases hc with hc | hc
  · exact evalHeld_0 p a1 a2 a3 a4 k v w0 hv (by omega) hc hk (by omega) x0 x1 y0 y1 s0 s1 t0 t1 w hT
  · exact evalHeld_1 p a1 a2 a3 a4 k v w0 hv (by omega) hc hk (by omega) x0 x1 y0 y1 s0 s1 t0 t1 w hT

end Go.Proofs.YtccdelpiflcipaaDoor
