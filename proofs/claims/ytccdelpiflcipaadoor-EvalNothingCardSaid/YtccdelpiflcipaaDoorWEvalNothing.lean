/- The walk of EvalNothing. -/
import Derived.Test.YtccdelpiflcipaaDoorAwE
import Derived.Test.YtccdelpiflcipaaDoorEG
import Derived.RegionTactic
import Derived.ChangeAlike
import Derived.BigRegion
import Derived.Deep.DeepCutAuto
import Derived.Deep.RegionHeld3
namespace Go.Proofs.YtccdelpiflcipaaDoor
open Go Go.RowKit
set_option linter.unusedVariables false

def ntN (p q : Nat → Int) : Nat → Int := upd (upd (upd (upd (upd (upd (upd (upd p 86 (q 86)) 87 (q 87)) 79 (q 79)) 80 (q 80)) 81 (q 81)) 82 (q 82)) 83 (q 83)) 65 (q 65)
theorem nt_ok {p q : Nat → Int} (hp : PosOk p) (hq : PosOk q) : PosOk (ntN p q) := by
  intro i hi
  show (Lit.int (kindAt i) (upd (upd (upd (upd (upd (upd (upd (upd p 86 (q 86)) 87 (q 87)) 79 (q 79)) 80 (q 80)) 81 (q 81)) 82 (q 82)) 83 (q 83)) 65 (q 65) i)).wf = true
  simp only [upd]
  repeat (first | exact hp i hi | (split; · rename_i h; subst h; exact hq _ (by decide)))
theorem nt_same (p q : Nat → Int) (i : Nat) (h : i ≠ 65 ∧ (i < 79 ∨ i = 84 ∨ i = 85)) : ntN p q i = p i := by
  unfold ntN upd
  repeat (rw [if_neg (by omega)])
theorem nt_worth (p q : Nat → Int) (v c : Nat) (hc : c ≤ 1) : worthI (ntN p q) v c = worthI p v c :=
  worthI_congr _ _ v c (fun j hj => nt_same p q _ (by omega)) (fun j hj => nt_same p q _ (by omega)) (nt_same p q _ (by omega))
theorem nt_worth' (p q : Nat → Int) (v c : Nat) : worthI (ntN p q) v c = worthI p v c := by
  by_cases hc : c ≤ 1
  · exact nt_worth p q v c hc
  · have hk : knownB v c = false := by unfold knownB; rw [decide_eq_false hc, Bool.and_false]
    rw [worthI_no _ _ _ hk, worthI_no _ _ _ hk]
theorem nt_of (p q : Nat → Int) (v t : Nat) : ofW (ntN p q) v t = ofW p v t :=
  ofW_congr _ _ v t (fun j hj => nt_same p q _ (by omega)) (fun j hj => nt_same p q _ (by omega)) (fun j hj => nt_same p q _ (by omega))

theorem keepN {X W : World} {g q : Nat} {n m : Nat → Int} {v : Int} (h : PosAt X g n) (k : PosAt X q m) (hv : m 0 = v) (hT : Tab X) (hb : Below X.heap.size X W) :
    (IsPos W g ∧ rowOf W g = posA n) ∧ (IsPos W q ∧ rowOf W q = posA m) ∧ W.cell? ⟨q, 0, none⟩ = some (.int .u8 v) ∧ Tab W ∧ Below X.heap.size X W :=
  ⟨(h.below hb h.lt).rules, (k.below hb k.lt).rules, by rw [(k.below hb k.lt).cell 0 (by decide), hv]; rfl, hT.below hb (Nat.le_refl _), hb⟩
theorem PosAt.setK {w : World} {g : Nat} {n : Nat → Int} (h : PosAt w g n) (i : Nat) (x : Int) {k : IntKind} (hk : k = kindAt i) : PosAt (w.setCell ⟨g, i, none⟩ (.int k x)) g (upd n i x) := by
  subst hk; exact h.set i x
set_option maxRecDepth 100000 in
set_option maxHeartbeats 8000000 in
theorem evalNothing_1 (p q : Nat → Int) (c : Nat) (v : Nat) (hp : PosOk p) (hq : PosOk q) (hv : p 0 = v) (hv9 : v ≤ 255) (hc9 : c ≤ 255) (w : World) (hT : Tab w) :
    Calls Tryd.prog 6 #[.agg (posA p), .agg (posA q), .int .u8 (c : Int)] w fun e w' => e = .returned (.bool true) ∧ Below w.heap.size w w' := by
  obtain ⟨y0, y1⟩ := hp.u8 78 (by decide) rfl
  obtain ⟨t, ht⟩ : ∃ t : Nat, p 78 = t := ⟨(p 78).toNat, by omega⟩
  have hx := nt_ok hp hq
  have hxv : ntN p q 0 = v := (nt_same p q 0 (by decide)).trans hv
  have hxt : ntN p q 78 = t := (nt_same p q 78 (by decide)).trans ht
  have hof := nt_of p q v t
  have hwo := nt_worth' p q v c
  obtain ⟨a, ha⟩ : ∃ a, ofW p v t = a := ⟨_, rfl⟩
  obtain ⟨b, hb⟩ : ∃ b, worthI p v c = b := ⟨_, rfl⟩
  rw [ha] at hof
  rw [hb] at hwo
  have GX : Hid (∀ W, Tab W → Calls Tryd.prog 15 #[.agg (posA (ntN p q))] W fun e w' => e = .returned (.int .i64 a) ∧ Below W.heap.size W w') := fun W hW => by
    have := pof_any _ hx v t hxv hxt hv9 (by omega) W hW
    rwa [hof] at this
  have GP : Hid (∀ W, Tab W → Calls Tryd.prog 15 #[.agg (posA p)] W fun e w' => e = .returned (.int .i64 a) ∧ Below W.heap.size W w') := fun W hW => by
    have := pof_any _ hp v t hv ht hv9 (by omega) W hW
    rwa [ha] at this
  have SX : Hid (∀ W, Tab W → Calls Tryd.prog 13 #[.agg (posA (ntN p q)), .int .u8 (c : Int)] W fun e w' => e = .returned (.int .i64 b) ∧ Below W.heap.size W w') := fun W hW => by
    have := side_any _ hx v c hxv hv9 hc9 W hW
    rwa [hwo] at this
  have SP : Hid (∀ W, Tab W → Calls Tryd.prog 13 #[.agg (posA p), .int .u8 (c : Int)] W fun e w' => e = .returned (.int .i64 b) ∧ Below W.heap.size W w') := fun W hW => by
    have := side_any _ hp v c hv hv9 hc9 W hW
    rwa [hb] at this
  have HK0 : Hid (knownB v c = false → b = 0) := fun h => hb.symm.trans (worthI_no p v c h)
  clear hx hxv hxt hof hwo ha hb ht y0 y1
  obtain ⟨X, hX⟩ : ∃ X, (w.alloc (.cells (posA p) 31)).alloc (.cells (posA q) 31) = X := ⟨_, rfl⟩
  obtain ⟨p0, q0, hb⟩ := box2 w p q X hX
  have HX := hideIt hX
  have HTX := hideIt (hT.below hb (Nat.le_refl _))
  have HT0 := hideIt hT
  clear hX hT
  go_enter Tryd.func6, Tryd.ntmps6
  go_wp2_with (rw [HX.out])
  refine (awakeE_any _ HTX.out).mono ?_
  rintro e Y ⟨rfl, h1⟩
  have p1 := p0.below h1 p0.lt
  have q1 := q0.below h1 q0.lt
  have hb1 := hb.trans (h1.mono hb.size)
  have HTY := hideIt (HTX.out.below h1 (Nat.le_refl _))
  clear h1 p0 q0 hb HTX
  obtain ⟨V, hV⟩ : ∃ V, (Y.alloc (.cells (posA zeroN) 31)).setRow Y.heap.size (posA p) = V := ⟨_, rfl⟩
  have hV2 : Y.alloc (.cells (posA p) 31) = V := by rw [← hV, World.setRow_alloc_new]
  have pV : PosAt V w.heap.size p := by rw [← hV2]; exact p1.alloc _
  have qV : PosAt V (w.heap.size + 1) q := by rw [← hV2]; exact q1.alloc _
  have xV : PosAt V Y.heap.size p := by rw [← hV2]; exact PosAt.new Y _
  have hbV : Below w.heap.size w V := by rw [← hV2]; exact hb1.alloc hb1.size _
  have hTV : Tab V := by rw [← hV2]; exact HTY.out.below ((Below.refl _ _).alloc (Nat.le_refl _) _) (Nat.le_refl _)
  have hg1 := q1.lt
  obtain ⟨g, hg⟩ : ∃ g, Y.heap.size = g := ⟨_, rfl⟩
  rw [hg] at xV hg1
  have HV := hideIt hV
  have HG := hideIt hg
  have HTV := hideIt hTV
  obtain ⟨i0, r0⟩ := p1.rules
  have hzp := zeroPos
  clear hV hV2 hg hTV p1 q1 hb1
  go_upto_region 4 with (rw [HV.out, HG.out])
  go_cut [] (fun wx => PosAt wx w.heap.size p ∧ PosAt wx g (ntN p q) ∧ Below w.heap.size w wx ∧ Tab wx)
  case first =>
    have n1 : ¬ g = w.heap.size := by omega
    have n2 : ¬ w.heap.size = g := by omega
    have n3 : ¬ g = w.heap.size + 1 := by omega
    have n4 : ¬ w.heap.size + 1 = g := by omega
    have o65 : V.cell? ⟨w.heap.size + 1, 65, none⟩ = some (.int .u64 (q 65)) := qV.cell 65 (by decide)
    have o79 : V.cell? ⟨w.heap.size + 1, 79, none⟩ = some (.int .i8 (q 79)) := qV.cell 79 (by decide)
    have o80 : V.cell? ⟨w.heap.size + 1, 80, none⟩ = some (.int .i8 (q 80)) := qV.cell 80 (by decide)
    have o81 : V.cell? ⟨w.heap.size + 1, 81, none⟩ = some (.int .i8 (q 81)) := qV.cell 81 (by decide)
    have o82 : V.cell? ⟨w.heap.size + 1, 82, none⟩ = some (.int .i8 (q 82)) := qV.cell 82 (by decide)
    have o83 : V.cell? ⟨w.heap.size + 1, 83, none⟩ = some (.int .i8 (q 83)) := qV.cell 83 (by decide)
    have o86 : V.cell? ⟨w.heap.size + 1, 86, none⟩ = some (.int .i64 (q 86)) := qV.cell 86 (by decide)
    have o87 : V.cell? ⟨w.heap.size + 1, 87, none⟩ = some (.int .i64 (q 87)) := qV.cell 87 (by decide)
    have g65 : V.cell? ⟨g, 65, none⟩ = some (.int .u64 (p 65)) := xV.cell 65 (by decide)
    have g79 : V.cell? ⟨g, 79, none⟩ = some (.int .i8 (p 79)) := xV.cell 79 (by decide)
    have g80 : V.cell? ⟨g, 80, none⟩ = some (.int .i8 (p 80)) := xV.cell 80 (by decide)
    have g81 : V.cell? ⟨g, 81, none⟩ = some (.int .i8 (p 81)) := xV.cell 81 (by decide)
    have g82 : V.cell? ⟨g, 82, none⟩ = some (.int .i8 (p 82)) := xV.cell 82 (by decide)
    have g83 : V.cell? ⟨g, 83, none⟩ = some (.int .i8 (p 83)) := xV.cell 83 (by decide)
    have g86 : V.cell? ⟨g, 86, none⟩ = some (.int .i64 (p 86)) := xV.cell 86 (by decide)
    have g87 : V.cell? ⟨g, 87, none⟩ = some (.int .i64 (p 87)) := xV.cell 87 (by decide)
    have f65 := xV.free 65
    have f79 := xV.free 79
    have f80 := xV.free 80
    have f81 := xV.free 81
    have f82 := xV.free 82
    have f83 := xV.free 83
    have f86 := xV.free 86
    have f87 := xV.free 87
    clear i0 r0 HV HG
    go_region
    all_goals
      go_wp2_with fail
      go_meet
      have hP : PosAt ((((((((V.setCell ⟨g, 86, none⟩ (.int .i64 (q 86))).setCell ⟨g, 87, none⟩ (.int .i64 (q 87))).setCell ⟨g, 79, none⟩ (.int .i8 (q 79))).setCell ⟨g, 80, none⟩ (.int .i8 (q 80))).setCell ⟨g, 81, none⟩ (.int .i8 (q 81))).setCell ⟨g, 82, none⟩ (.int .i8 (q 82))).setCell ⟨g, 83, none⟩ (.int .i8 (q 83))).setCell ⟨g, 65, none⟩ (.int .u64 (q 65))).drew w.heap.size p := by repeat (first | with_reducible exact pV | with_reducible refine PosAt.drew ?_ | with_reducible refine PosAt.other ?_ n1 _)
      have hB : Below w.heap.size w ((((((((V.setCell ⟨g, 86, none⟩ (.int .i64 (q 86))).setCell ⟨g, 87, none⟩ (.int .i64 (q 87))).setCell ⟨g, 79, none⟩ (.int .i8 (q 79))).setCell ⟨g, 80, none⟩ (.int .i8 (q 80))).setCell ⟨g, 81, none⟩ (.int .i8 (q 81))).setCell ⟨g, 82, none⟩ (.int .i8 (q 82))).setCell ⟨g, 83, none⟩ (.int .i8 (q 83))).setCell ⟨g, 65, none⟩ (.int .u64 (q 65))).drew := by
        have hle : w.heap.size ≤ g := by omega
        repeat (first | with_reducible exact hbV | with_reducible refine Below.drew ?_ | with_reducible refine Below.setCell ?_ hle _)
      have hXx : PosAt ((((((((V.setCell ⟨g, 86, none⟩ (.int .i64 (q 86))).setCell ⟨g, 87, none⟩ (.int .i64 (q 87))).setCell ⟨g, 79, none⟩ (.int .i8 (q 79))).setCell ⟨g, 80, none⟩ (.int .i8 (q 80))).setCell ⟨g, 81, none⟩ (.int .i8 (q 81))).setCell ⟨g, 82, none⟩ (.int .i8 (q 82))).setCell ⟨g, 83, none⟩ (.int .i8 (q 83))).setCell ⟨g, 65, none⟩ (.int .u64 (q 65))).drew g (ntN p q) := by
        unfold ntN
        repeat (first | with_reducible exact xV | with_reducible refine PosAt.drew ?_ | with_reducible refine PosAt.setK ?_ _ _ rfl)
      exact ⟨hP, hXx, hB, HT0.out.below hB (Nat.le_refl _)⟩
  case rest =>
    obtain ⟨p0, x0, hb0, hT1⟩ := hcut
    have HXX := hideIt x0
    have HPP := hideIt p0
    have HT1 := hideIt hT1
    have HV0 := hideIt hv
    clear p0 x0 hT1 HTY HTV pV qV xV hbV hv HV HG i0 r0
    by_cases hk : c ≤ 1 ∧ v < 9
    · obtain ⟨k1, k2⟩ := hk
      have d1 : decide ((c : Int) ≤ 1) = true := decide_eq_true (by omega)
      have d2 : decide ((v : Int) < 9) = true := decide_eq_true (by omega)
      clear k1 k2 HK0
      go_upto_region 5 with fail
      refine wp_region_held_drew (S := (fun W => (IsPos W g ∧ rowOf W g = posA (ntN p q)) ∧ (IsPos W w.heap.size ∧ rowOf W w.heap.size = posA p) ∧ W.cell? ⟨w.heap.size, 0, none⟩ = some (.int .u8 v) ∧ Tab W ∧ Below wc.heap.size wc W)) (by kernel_rfl) ?_ (fun hHeld => ?_)
      · (try dsimp only); (refine keepN HXX.out HPP.out HV0.out HT1.out ?_; repeat (first | exact Below.refl _ _ | assumption | refine bl_drew ?_ | refine bl_then ?_ (by assumption)))
      refine wpAnyH_take (i := 0) (oi := { dst := some 26, op := Op.load 31 (Operand.tmp 7), type := 31, pos := "outright.go:97", after := #[], guard := none }) (v := ?_) rfl (by kernel_rfl) (by kernel_rfl) (by kernel_rfl) (fun _ _ _ h => h) (Or.inl ⟨by rfl, ?_⟩) (by assumption) ?_
      rotate_left
      · (intro w hSw; (try dsimp only at hSw); go_simp; try (with_reducible rfl))
      try simp only [Act.put, List.setIfInBounds_toArray, List.set_cons_zero, List.set_cons_succ]
      refine wpAnyH_take (i := 2) (oi := { dst := some 28, op := Op.load 31 (Operand.tmp 3), type := 31, pos := "outright.go:97", after := #[], guard := none }) (v := ?_) rfl (by kernel_rfl) (by kernel_rfl) (by kernel_rfl) (fun _ _ _ h => h) (Or.inl ⟨by rfl, ?_⟩) (by assumption) ?_
      rotate_left
      · (intro w hSw; (try dsimp only at hSw); go_simp; try (with_reducible rfl))
      try simp only [Act.put, List.setIfInBounds_toArray, List.set_cons_zero, List.set_cons_succ]
      refine wpAnyH_ready (rs := [1]) (by kernel_rfl) (by simp) ?_
      refine AllReadyH.cons (o := { dst := some 27, op := Op.call { callee := Callee.value (Operand.func 15), args := #[Operand.tmp 26], argTypes := #[31] }, type := 3, pos := "outright.go:97", after := #[{ on := 0, ground := Ground.data }], guard := none }) rfl (fun K hK => ?_) AllReadyH.nil
      go_simp
      refine (GX.out _ hHeld.2.2.2.1).mono ?_
      rintro e w5 ⟨rfl, h1⟩
      refine hK.out _ _ ?_ (fun hHeld => ?_)
      · (try dsimp only); (refine keepN HXX.out HPP.out HV0.out HT1.out ?_; repeat (first | exact Below.refl _ _ | assumption | refine bl_drew ?_ | refine bl_then ?_ (by assumption)))
      clear hK K
      try simp only [Act.put, List.setIfInBounds_toArray, List.set_cons_zero, List.set_cons_succ]
      refine wpAnyH_ready (rs := [3]) (by kernel_rfl) (by simp) ?_
      refine AllReadyH.cons (o := { dst := some 29, op := Op.call { callee := Callee.value (Operand.func 15), args := #[Operand.tmp 28], argTypes := #[31] }, type := 3, pos := "outright.go:97", after := #[{ on := 2, ground := Ground.data }, { on := 1, ground := Ground.chain }], guard := none }) rfl (fun K hK => ?_) AllReadyH.nil
      go_simp
      refine (GP.out _ hHeld.2.2.2.1).mono ?_
      rintro e w5 ⟨rfl, h1⟩
      refine hK.out _ _ ?_ (fun hHeld => ?_)
      · (try dsimp only); (refine keepN HXX.out HPP.out HV0.out HT1.out ?_; repeat (first | exact Below.refl _ _ | assumption | refine bl_drew ?_ | refine bl_then ?_ (by assumption)))
      clear hK K
      try simp only [Act.put, List.setIfInBounds_toArray, List.set_cons_zero, List.set_cons_succ]
      refine wpAnyH_take (i := 4) (oi := { dst := some 30, op := Op.binOp BinOp.eql 3 (Operand.tmp 27) (Operand.tmp 29) 3, type := 4, pos := "outright.go:97", after := #[{ on := 1, ground := Ground.data }, { on := 3, ground := Ground.data }], guard := none }) (v := ?_) rfl (by kernel_rfl) (by kernel_rfl) (by kernel_rfl) (fun _ _ _ h => h) (Or.inl ⟨by rfl, ?_⟩) (by assumption) ?_
      rotate_left
      · (intro w hSw; (try dsimp only at hSw); go_simp; try (with_reducible rfl))
      try simp only [Act.put, List.setIfInBounds_toArray, List.set_cons_zero, List.set_cons_succ]
      refine wpAnyH_take (i := 5) (oi := { dst := some 31, op := Op.move (Operand.tmp 30), type := 4, pos := "outright.go:97", after := #[{ on := 4, ground := Ground.data }, { on := 3, ground := Ground.chain }], guard := none }) (v := ?_) rfl (by kernel_rfl) (by kernel_rfl) (by kernel_rfl) (fun _ _ _ h => h) (Or.inl ⟨by rfl, ?_⟩) (by assumption) ?_
      rotate_left
      · (intro w hSw; (try dsimp only at hSw); go_simp; try (with_reducible rfl))
      try simp only [Act.put, List.setIfInBounds_toArray, List.set_cons_zero, List.set_cons_succ]
      refine wpAnyH_take (i := 6) (oi := { dst := some 32, op := Op.load 31 (Operand.tmp 7), type := 31, pos := "outright.go:97", after := #[{ on := 5, ground := Ground.guard }], guard := some (5, true) }) (v := ?_) rfl (by kernel_rfl) (by kernel_rfl) (by kernel_rfl) (fun _ _ _ h => h) (Or.inl ⟨by rfl, ?_⟩) (by assumption) ?_
      rotate_left
      · (intro w hSw; (try dsimp only at hSw); go_simp; try (with_reducible rfl))
      try simp only [Act.put, List.setIfInBounds_toArray, List.set_cons_zero, List.set_cons_succ]
      refine wpAnyH_take (i := 7) (oi := { dst := some 33, op := Op.move (Operand.tmp 2), type := 5, pos := "outright.go:97", after := #[{ on := 5, ground := Ground.guard }], guard := some (5, true) }) (v := ?_) rfl (by kernel_rfl) (by kernel_rfl) (by kernel_rfl) (fun _ _ _ h => h) (Or.inl ⟨by rfl, ?_⟩) (by assumption) ?_
      rotate_left
      · (intro w hSw; (try dsimp only at hSw); go_simp; try (with_reducible rfl))
      try simp only [Act.put, List.setIfInBounds_toArray, List.set_cons_zero, List.set_cons_succ]
      refine wpAnyH_take (i := 9) (oi := { dst := some 35, op := Op.load 31 (Operand.tmp 3), type := 31, pos := "outright.go:97", after := #[{ on := 5, ground := Ground.guard }], guard := some (5, true) }) (v := ?_) rfl (by kernel_rfl) (by kernel_rfl) (by kernel_rfl) (fun _ _ _ h => h) (Or.inl ⟨by rfl, ?_⟩) (by assumption) ?_
      rotate_left
      · (intro w hSw; (try dsimp only at hSw); go_simp; try (with_reducible rfl))
      try simp only [Act.put, List.setIfInBounds_toArray, List.set_cons_zero, List.set_cons_succ]
      refine wpAnyH_take (i := 10) (oi := { dst := some 36, op := Op.move (Operand.tmp 2), type := 5, pos := "outright.go:97", after := #[{ on := 5, ground := Ground.guard }], guard := some (5, true) }) (v := ?_) rfl (by kernel_rfl) (by kernel_rfl) (by kernel_rfl) (fun _ _ _ h => h) (Or.inl ⟨by rfl, ?_⟩) (by assumption) ?_
      rotate_left
      · (intro w hSw; (try dsimp only at hSw); go_simp; try (with_reducible rfl))
      try simp only [Act.put, List.setIfInBounds_toArray, List.set_cons_zero, List.set_cons_succ]
      refine wpAnyH_ready (rs := [8]) (by kernel_rfl) (by simp) ?_
      refine AllReadyH.cons (o := { dst := some 34, op := Op.call { callee := Callee.value (Operand.func 13), args := #[Operand.tmp 32, Operand.tmp 33], argTypes := #[31, 5] }, type := 3, pos := "outright.go:97", after := #[{ on := 6, ground := Ground.data }, { on := 7, ground := Ground.data }, { on := 5, ground := Ground.chain }, { on := 5, ground := Ground.guard }], guard := some (5, true) }) rfl (fun K hK => ?_) AllReadyH.nil
      go_simp
      refine (SX.out _ hHeld.2.2.2.1).mono ?_
      rintro e w5 ⟨rfl, h1⟩
      refine hK.out _ _ ?_ (fun hHeld => ?_)
      · (try dsimp only); (refine keepN HXX.out HPP.out HV0.out HT1.out ?_; repeat (first | exact Below.refl _ _ | assumption | refine bl_drew ?_ | refine bl_then ?_ (by assumption)))
      clear hK K
      try simp only [Act.put, List.setIfInBounds_toArray, List.set_cons_zero, List.set_cons_succ]
      refine wpAnyH_ready (rs := [11]) (by kernel_rfl) (by simp) ?_
      refine AllReadyH.cons (o := { dst := some 37, op := Op.call { callee := Callee.value (Operand.func 13), args := #[Operand.tmp 35, Operand.tmp 36], argTypes := #[31, 5] }, type := 3, pos := "outright.go:97", after := #[{ on := 9, ground := Ground.data }, { on := 10, ground := Ground.data }, { on := 8, ground := Ground.chain }, { on := 5, ground := Ground.guard }], guard := some (5, true) }) rfl (fun K hK => ?_) AllReadyH.nil
      go_simp
      refine (SP.out _ hHeld.2.2.2.1).mono ?_
      rintro e w5 ⟨rfl, h1⟩
      refine hK.out _ _ ?_ (fun hHeld => ?_)
      · (try dsimp only); (refine keepN HXX.out HPP.out HV0.out HT1.out ?_; repeat (first | exact Below.refl _ _ | assumption | refine bl_drew ?_ | refine bl_then ?_ (by assumption)))
      clear hK K
      try simp only [Act.put, List.setIfInBounds_toArray, List.set_cons_zero, List.set_cons_succ]
      refine wpAnyH_take (i := 12) (oi := { dst := some 38, op := Op.binOp BinOp.eql 3 (Operand.tmp 34) (Operand.tmp 37) 3, type := 4, pos := "outright.go:97", after := #[{ on := 8, ground := Ground.data }, { on := 11, ground := Ground.data }, { on := 5, ground := Ground.guard }], guard := some (5, true) }) (v := ?_) rfl (by kernel_rfl) (by kernel_rfl) (by kernel_rfl) (fun _ _ _ h => h) (Or.inl ⟨by rfl, ?_⟩) (by assumption) ?_
      rotate_left
      · (intro w hSw; (try dsimp only at hSw); go_simp; try (with_reducible rfl))
      try simp only [Act.put, List.setIfInBounds_toArray, List.set_cons_zero, List.set_cons_succ]
      refine wpAnyH_take (i := 13) (oi := { dst := some 39, op := Op.pick (Operand.tmp 31) (Operand.tmp 38) (Operand.const (Value.bool false)), type := 4, pos := "outright.go:97", after := #[{ on := 5, ground := Ground.data }, { on := 12, ground := Ground.data }], guard := none }) (v := ?_) rfl (by kernel_rfl) (by kernel_rfl) (by kernel_rfl) (fun _ _ _ h => h) (Or.inl ⟨by rfl, ?_⟩) (by assumption) ?_
      rotate_left
      · (intro w hSw; (try dsimp only at hSw); go_simp; try (with_reducible rfl))
      try simp only [Act.put, List.setIfInBounds_toArray, List.set_cons_zero, List.set_cons_succ]
      refine wpAnyH_take (i := 14) (oi := { dst := some 40, op := Op.move (Operand.tmp 39), type := 4, pos := "outright.go:97", after := #[{ on := 13, ground := Ground.data }, { on := 11, ground := Ground.chain }], guard := none }) (v := ?_) rfl (by kernel_rfl) (by kernel_rfl) (by kernel_rfl) (fun _ _ _ h => h) (Or.inl ⟨by rfl, ?_⟩) (by assumption) ?_
      rotate_left
      · (intro w hSw; (try dsimp only at hSw); go_simp; try (with_reducible rfl))
      try simp only [Act.put, List.setIfInBounds_toArray, List.set_cons_zero, List.set_cons_succ]
      refine wpAnyH_take (i := 15) (oi := { dst := some 41, op := Op.move (Operand.tmp 2), type := 5, pos := "outright.go:97", after := #[{ on := 14, ground := Ground.guard }], guard := some (14, true) }) (v := ?_) rfl (by kernel_rfl) (by kernel_rfl) (by kernel_rfl) (fun _ _ _ h => h) (Or.inl ⟨by rfl, ?_⟩) (by assumption) ?_
      rotate_left
      · (intro w hSw; (try dsimp only at hSw); go_simp; try (with_reducible rfl))
      try simp only [Act.put, List.setIfInBounds_toArray, List.set_cons_zero, List.set_cons_succ]
      refine wpAnyH_take (i := 16) (oi := { dst := some 42, op := Op.binOp BinOp.leq 5 (Operand.tmp 41) (Operand.const (Value.int IntKind.u8 1)) 5, type := 4, pos := "outright.go:97", after := #[{ on := 15, ground := Ground.data }, { on := 14, ground := Ground.guard }], guard := some (14, true) }) (v := ?_) rfl (by kernel_rfl) (by kernel_rfl) (by kernel_rfl) (fun _ _ _ h => h) (Or.inl ⟨by rfl, ?_⟩) (by assumption) ?_
      rotate_left
      · (intro w hSw; (try dsimp only at hSw); go_simp; try (with_reducible rfl))
      try simp only [Act.put, List.setIfInBounds_toArray, List.set_cons_zero, List.set_cons_succ]
      refine wpAnyH_take (i := 17) (oi := { dst := some 43, op := Op.move (Operand.tmp 42), type := 4, pos := "outright.go:97", after := #[{ on := 16, ground := Ground.data }, { on := 14, ground := Ground.chain }, { on := 14, ground := Ground.guard }], guard := some (14, true) }) (v := ?_) rfl (by kernel_rfl) (by kernel_rfl) (by kernel_rfl) (fun _ _ _ h => h) (Or.inl ⟨by rfl, ?_⟩) (by assumption) ?_
      rotate_left
      · (intro w hSw; (try dsimp only at hSw); go_simp; try (with_reducible rfl))
      try simp only [Act.put, List.setIfInBounds_toArray, List.set_cons_zero, List.set_cons_succ]
      refine wpAnyH_take (i := 18) (oi := { dst := some 44, op := Op.fieldAddr 31 (Operand.tmp 3) 0, type := 0, pos := "outright.go:97", after := #[{ on := 17, ground := Ground.guard }], guard := some (17, true) }) (v := ?_) rfl (by kernel_rfl) (by kernel_rfl) (by kernel_rfl) (fun _ _ _ h => h) (Or.inl ⟨by rfl, ?_⟩) (by assumption) ?_
      rotate_left
      · (intro w hSw; (try dsimp only at hSw); go_simp; try (with_reducible rfl))
      try simp only [Act.put, List.setIfInBounds_toArray, List.set_cons_zero, List.set_cons_succ]
      refine wpAnyH_take (i := 19) (oi := { dst := some 45, op := Op.load 5 (Operand.tmp 44), type := 5, pos := "outright.go:97", after := #[{ on := 18, ground := Ground.data }, { on := 17, ground := Ground.guard }], guard := some (17, true) }) (v := ?_) rfl (by kernel_rfl) (by kernel_rfl) (by kernel_rfl) (fun _ _ _ h => h) (Or.inl ⟨by rfl, ?_⟩) (by assumption) ?_
      rotate_left
      · (intro w hSw; (try dsimp only at hSw); go_simp; try (with_reducible rfl))
      try simp only [Act.put, List.setIfInBounds_toArray, List.set_cons_zero, List.set_cons_succ]
      refine wpAnyH_take (i := 20) (oi := { dst := some 46, op := Op.binOp BinOp.lss 5 (Operand.tmp 45) (Operand.const (Value.int IntKind.u8 9)) 5, type := 4, pos := "outright.go:97", after := #[{ on := 19, ground := Ground.data }, { on := 17, ground := Ground.guard }], guard := some (17, true) }) (v := ?_) rfl (by kernel_rfl) (by kernel_rfl) (by kernel_rfl) (fun _ _ _ h => h) (Or.inl ⟨by rfl, ?_⟩) (by assumption) ?_
      rotate_left
      · (intro w hSw; (try dsimp only at hSw); go_simp; try (with_reducible rfl))
      try simp only [Act.put, List.setIfInBounds_toArray, List.set_cons_zero, List.set_cons_succ]
      refine wpAnyH_take (i := 21) (oi := { dst := some 47, op := Op.pick (Operand.tmp 43) (Operand.tmp 46) (Operand.const (Value.bool false)), type := 4, pos := "outright.go:97", after := #[{ on := 17, ground := Ground.data }, { on := 20, ground := Ground.data }, { on := 14, ground := Ground.guard }], guard := some (14, true) }) (v := ?_) rfl (by kernel_rfl) (by kernel_rfl) (by kernel_rfl) (fun _ _ _ h => h) (Or.inl ⟨by rfl, ?_⟩) (by assumption) ?_
      rotate_left
      · (intro w hSw; (try dsimp only at hSw); go_simp; try (with_reducible rfl))
      try simp only [Act.put, List.setIfInBounds_toArray, List.set_cons_zero, List.set_cons_succ]
      refine wpAnyH_take (i := 22) (oi := { dst := some 48, op := Op.move (Operand.tmp 47), type := 4, pos := "outright.go:97", after := #[{ on := 21, ground := Ground.data }, { on := 17, ground := Ground.chain }, { on := 14, ground := Ground.guard }], guard := some (14, true) }) (v := ?_) rfl (by kernel_rfl) (by kernel_rfl) (by kernel_rfl) (fun _ _ _ h => h) (Or.inl ⟨by rfl, ?_⟩) (by assumption) ?_
      rotate_left
      · (intro w hSw; (try dsimp only at hSw); go_simp; try (with_reducible rfl))
      try simp only [Act.put, List.setIfInBounds_toArray, List.set_cons_zero, List.set_cons_succ]
      refine wpAnyH_take (i := 23) (oi := { dst := some 49, op := Op.load 31 (Operand.tmp 3), type := 31, pos := "outright.go:97", after := #[{ on := 22, ground := Ground.guard }], guard := some (22, false) }) (v := undef) rfl (by kernel_rfl) (by kernel_rfl) (by kernel_rfl) (fun _ _ _ h => h) (Or.inr ⟨by rfl, rfl⟩) (by assumption) ?_
      try simp only [Act.put, List.setIfInBounds_toArray, List.set_cons_zero, List.set_cons_succ]
      refine wpAnyH_take (i := 24) (oi := { dst := some 50, op := Op.move (Operand.tmp 2), type := 5, pos := "outright.go:97", after := #[{ on := 22, ground := Ground.guard }], guard := some (22, false) }) (v := undef) rfl (by kernel_rfl) (by kernel_rfl) (by kernel_rfl) (fun _ _ _ h => h) (Or.inr ⟨by rfl, rfl⟩) (by assumption) ?_
      try simp only [Act.put, List.setIfInBounds_toArray, List.set_cons_zero, List.set_cons_succ]
      refine wpAnyH_take (i := 25) (oi := { dst := some 51, op := Op.call { callee := Callee.value (Operand.func 13), args := #[Operand.tmp 49, Operand.tmp 50], argTypes := #[31, 5] }, type := 3, pos := "outright.go:97", after := #[{ on := 23, ground := Ground.data }, { on := 24, ground := Ground.data }, { on := 22, ground := Ground.chain }, { on := 22, ground := Ground.guard }], guard := some (22, false) }) (v := undef) rfl (by kernel_rfl) (by kernel_rfl) (by kernel_rfl) (fun _ _ _ h => h) (Or.inr ⟨by rfl, rfl⟩) (by assumption) ?_
      try simp only [Act.put, List.setIfInBounds_toArray, List.set_cons_zero, List.set_cons_succ]
      refine wpAnyH_take (i := 26) (oi := { dst := some 52, op := Op.binOp BinOp.eql 3 (Operand.tmp 51) (Operand.const (Value.int IntKind.i64 0)) 3, type := 4, pos := "outright.go:97", after := #[{ on := 25, ground := Ground.data }, { on := 22, ground := Ground.guard }], guard := some (22, false) }) (v := undef) rfl (by kernel_rfl) (by kernel_rfl) (by kernel_rfl) (fun _ _ _ h => h) (Or.inr ⟨by rfl, rfl⟩) (by assumption) ?_
      try simp only [Act.put, List.setIfInBounds_toArray, List.set_cons_zero, List.set_cons_succ]
      refine wpAnyH_take (i := 27) (oi := { dst := some 53, op := Op.pick (Operand.tmp 48) (Operand.const (Value.bool true)) (Operand.tmp 52), type := 4, pos := "outright.go:97", after := #[{ on := 22, ground := Ground.data }, { on := 26, ground := Ground.data }, { on := 14, ground := Ground.guard }], guard := some (14, true) }) (v := ?_) rfl (by kernel_rfl) (by kernel_rfl) (by kernel_rfl) (fun _ _ _ h => h) (Or.inl ⟨by rfl, ?_⟩) (by assumption) ?_
      rotate_left
      · (intro w hSw; (try dsimp only at hSw); go_simp; try (with_reducible rfl))
      try simp only [Act.put, List.setIfInBounds_toArray, List.set_cons_zero, List.set_cons_succ]
      refine wpAnyH_take (i := 28) (oi := { dst := some 54, op := Op.pick (Operand.tmp 40) (Operand.tmp 53) (Operand.const (Value.bool false)), type := 4, pos := "outright.go:97", after := #[{ on := 14, ground := Ground.data }, { on := 27, ground := Ground.data }], guard := none }) (v := ?_) rfl (by kernel_rfl) (by kernel_rfl) (by kernel_rfl) (fun _ _ _ h => h) (Or.inl ⟨by rfl, ?_⟩) (by assumption) ?_
      rotate_left
      · (intro w hSw; (try dsimp only at hSw); go_simp; try (with_reducible rfl))
      try simp only [Act.put, List.setIfInBounds_toArray, List.set_cons_zero, List.set_cons_succ]
      refine wpAnyH_take (i := 29) (oi := { dst := some 6, op := Op.assign (Operand.tmp 54), type := 4, pos := "outright.go:97", after := #[{ on := 28, ground := Ground.data }, { on := 25, ground := Ground.chain }, { on := 0, ground := Ground.phase }, { on := 1, ground := Ground.phase }, { on := 2, ground := Ground.phase }, { on := 3, ground := Ground.phase }, { on := 4, ground := Ground.phase }, { on := 5, ground := Ground.phase }, { on := 6, ground := Ground.phase }, { on := 7, ground := Ground.phase }, { on := 8, ground := Ground.phase }, { on := 9, ground := Ground.phase }, { on := 10, ground := Ground.phase }, { on := 11, ground := Ground.phase }, { on := 12, ground := Ground.phase }, { on := 13, ground := Ground.phase }, { on := 14, ground := Ground.phase }, { on := 15, ground := Ground.phase }, { on := 16, ground := Ground.phase }, { on := 17, ground := Ground.phase }, { on := 18, ground := Ground.phase }, { on := 19, ground := Ground.phase }, { on := 20, ground := Ground.phase }, { on := 21, ground := Ground.phase }, { on := 22, ground := Ground.phase }, { on := 23, ground := Ground.phase }, { on := 24, ground := Ground.phase }, { on := 25, ground := Ground.phase }, { on := 26, ground := Ground.phase }, { on := 27, ground := Ground.phase }, { on := 28, ground := Ground.phase }], guard := none }) (v := ?_) rfl (by kernel_rfl) (by kernel_rfl) (by kernel_rfl) (fun _ _ _ h => h) (Or.inl ⟨by rfl, ?_⟩) (by assumption) ?_
      rotate_left
      · (intro w hSw; (try dsimp only at hSw); go_simp; try (with_reducible rfl))
      try simp only [Act.put, List.setIfInBounds_toArray, List.set_cons_zero, List.set_cons_succ]
      refine wpAnyH_done (by kernel_rfl) ?_ _
      have hq := hHeld.2.2.2.2
      go_wp2
      go_ret
      exact ⟨rfl, hb0.trans (hq.mono hb0.size)⟩
    · have HB0 := HK0.out (by unfold knownB; rw [Bool.and_eq_false_iff, decide_eq_false_iff_not, decide_eq_false_iff_not]; omega)
      subst HB0
      by_cases k1 : c ≤ 1
      · have d1 : decide ((c : Int) ≤ 1) = true := decide_eq_true (by omega)
        have d2 : decide ((v : Int) < 9) = false := decide_eq_false (by omega)
        clear k1 hk
        go_upto_region 5 with fail
        refine wp_region_held_drew (S := (fun W => (IsPos W g ∧ rowOf W g = posA (ntN p q)) ∧ (IsPos W w.heap.size ∧ rowOf W w.heap.size = posA p) ∧ W.cell? ⟨w.heap.size, 0, none⟩ = some (.int .u8 v) ∧ Tab W ∧ Below wc.heap.size wc W)) (by kernel_rfl) ?_ (fun hHeld => ?_)
        · (try dsimp only); (refine keepN HXX.out HPP.out HV0.out HT1.out ?_; repeat (first | exact Below.refl _ _ | assumption | refine bl_drew ?_ | refine bl_then ?_ (by assumption)))
        refine wpAnyH_take (i := 0) (oi := { dst := some 26, op := Op.load 31 (Operand.tmp 7), type := 31, pos := "outright.go:97", after := #[], guard := none }) (v := ?_) rfl (by kernel_rfl) (by kernel_rfl) (by kernel_rfl) (fun _ _ _ h => h) (Or.inl ⟨by rfl, ?_⟩) (by assumption) ?_
        rotate_left
        · (intro w hSw; (try dsimp only at hSw); go_simp; try (with_reducible rfl))
        try simp only [Act.put, List.setIfInBounds_toArray, List.set_cons_zero, List.set_cons_succ]
        refine wpAnyH_take (i := 2) (oi := { dst := some 28, op := Op.load 31 (Operand.tmp 3), type := 31, pos := "outright.go:97", after := #[], guard := none }) (v := ?_) rfl (by kernel_rfl) (by kernel_rfl) (by kernel_rfl) (fun _ _ _ h => h) (Or.inl ⟨by rfl, ?_⟩) (by assumption) ?_
        rotate_left
        · (intro w hSw; (try dsimp only at hSw); go_simp; try (with_reducible rfl))
        try simp only [Act.put, List.setIfInBounds_toArray, List.set_cons_zero, List.set_cons_succ]
        refine wpAnyH_ready (rs := [1]) (by kernel_rfl) (by simp) ?_
        refine AllReadyH.cons (o := { dst := some 27, op := Op.call { callee := Callee.value (Operand.func 15), args := #[Operand.tmp 26], argTypes := #[31] }, type := 3, pos := "outright.go:97", after := #[{ on := 0, ground := Ground.data }], guard := none }) rfl (fun K hK => ?_) AllReadyH.nil
        go_simp
        refine (GX.out _ hHeld.2.2.2.1).mono ?_
        rintro e w5 ⟨rfl, h1⟩
        refine hK.out _ _ ?_ (fun hHeld => ?_)
        · (try dsimp only); (refine keepN HXX.out HPP.out HV0.out HT1.out ?_; repeat (first | exact Below.refl _ _ | assumption | refine bl_drew ?_ | refine bl_then ?_ (by assumption)))
        clear hK K
        try simp only [Act.put, List.setIfInBounds_toArray, List.set_cons_zero, List.set_cons_succ]
        refine wpAnyH_ready (rs := [3]) (by kernel_rfl) (by simp) ?_
        refine AllReadyH.cons (o := { dst := some 29, op := Op.call { callee := Callee.value (Operand.func 15), args := #[Operand.tmp 28], argTypes := #[31] }, type := 3, pos := "outright.go:97", after := #[{ on := 2, ground := Ground.data }, { on := 1, ground := Ground.chain }], guard := none }) rfl (fun K hK => ?_) AllReadyH.nil
        go_simp
        refine (GP.out _ hHeld.2.2.2.1).mono ?_
        rintro e w5 ⟨rfl, h1⟩
        refine hK.out _ _ ?_ (fun hHeld => ?_)
        · (try dsimp only); (refine keepN HXX.out HPP.out HV0.out HT1.out ?_; repeat (first | exact Below.refl _ _ | assumption | refine bl_drew ?_ | refine bl_then ?_ (by assumption)))
        clear hK K
        try simp only [Act.put, List.setIfInBounds_toArray, List.set_cons_zero, List.set_cons_succ]
        refine wpAnyH_take (i := 4) (oi := { dst := some 30, op := Op.binOp BinOp.eql 3 (Operand.tmp 27) (Operand.tmp 29) 3, type := 4, pos := "outright.go:97", after := #[{ on := 1, ground := Ground.data }, { on := 3, ground := Ground.data }], guard := none }) (v := ?_) rfl (by kernel_rfl) (by kernel_rfl) (by kernel_rfl) (fun _ _ _ h => h) (Or.inl ⟨by rfl, ?_⟩) (by assumption) ?_
        rotate_left
        · (intro w hSw; (try dsimp only at hSw); go_simp; try (with_reducible rfl))
        try simp only [Act.put, List.setIfInBounds_toArray, List.set_cons_zero, List.set_cons_succ]
        refine wpAnyH_take (i := 5) (oi := { dst := some 31, op := Op.move (Operand.tmp 30), type := 4, pos := "outright.go:97", after := #[{ on := 4, ground := Ground.data }, { on := 3, ground := Ground.chain }], guard := none }) (v := ?_) rfl (by kernel_rfl) (by kernel_rfl) (by kernel_rfl) (fun _ _ _ h => h) (Or.inl ⟨by rfl, ?_⟩) (by assumption) ?_
        rotate_left
        · (intro w hSw; (try dsimp only at hSw); go_simp; try (with_reducible rfl))
        try simp only [Act.put, List.setIfInBounds_toArray, List.set_cons_zero, List.set_cons_succ]
        refine wpAnyH_take (i := 6) (oi := { dst := some 32, op := Op.load 31 (Operand.tmp 7), type := 31, pos := "outright.go:97", after := #[{ on := 5, ground := Ground.guard }], guard := some (5, true) }) (v := ?_) rfl (by kernel_rfl) (by kernel_rfl) (by kernel_rfl) (fun _ _ _ h => h) (Or.inl ⟨by rfl, ?_⟩) (by assumption) ?_
        rotate_left
        · (intro w hSw; (try dsimp only at hSw); go_simp; try (with_reducible rfl))
        try simp only [Act.put, List.setIfInBounds_toArray, List.set_cons_zero, List.set_cons_succ]
        refine wpAnyH_take (i := 7) (oi := { dst := some 33, op := Op.move (Operand.tmp 2), type := 5, pos := "outright.go:97", after := #[{ on := 5, ground := Ground.guard }], guard := some (5, true) }) (v := ?_) rfl (by kernel_rfl) (by kernel_rfl) (by kernel_rfl) (fun _ _ _ h => h) (Or.inl ⟨by rfl, ?_⟩) (by assumption) ?_
        rotate_left
        · (intro w hSw; (try dsimp only at hSw); go_simp; try (with_reducible rfl))
        try simp only [Act.put, List.setIfInBounds_toArray, List.set_cons_zero, List.set_cons_succ]
        refine wpAnyH_take (i := 9) (oi := { dst := some 35, op := Op.load 31 (Operand.tmp 3), type := 31, pos := "outright.go:97", after := #[{ on := 5, ground := Ground.guard }], guard := some (5, true) }) (v := ?_) rfl (by kernel_rfl) (by kernel_rfl) (by kernel_rfl) (fun _ _ _ h => h) (Or.inl ⟨by rfl, ?_⟩) (by assumption) ?_
        rotate_left
        · (intro w hSw; (try dsimp only at hSw); go_simp; try (with_reducible rfl))
        try simp only [Act.put, List.setIfInBounds_toArray, List.set_cons_zero, List.set_cons_succ]
        refine wpAnyH_take (i := 10) (oi := { dst := some 36, op := Op.move (Operand.tmp 2), type := 5, pos := "outright.go:97", after := #[{ on := 5, ground := Ground.guard }], guard := some (5, true) }) (v := ?_) rfl (by kernel_rfl) (by kernel_rfl) (by kernel_rfl) (fun _ _ _ h => h) (Or.inl ⟨by rfl, ?_⟩) (by assumption) ?_
        rotate_left
        · (intro w hSw; (try dsimp only at hSw); go_simp; try (with_reducible rfl))
        try simp only [Act.put, List.setIfInBounds_toArray, List.set_cons_zero, List.set_cons_succ]
        refine wpAnyH_ready (rs := [8]) (by kernel_rfl) (by simp) ?_
        refine AllReadyH.cons (o := { dst := some 34, op := Op.call { callee := Callee.value (Operand.func 13), args := #[Operand.tmp 32, Operand.tmp 33], argTypes := #[31, 5] }, type := 3, pos := "outright.go:97", after := #[{ on := 6, ground := Ground.data }, { on := 7, ground := Ground.data }, { on := 5, ground := Ground.chain }, { on := 5, ground := Ground.guard }], guard := some (5, true) }) rfl (fun K hK => ?_) AllReadyH.nil
        go_simp
        refine (SX.out _ hHeld.2.2.2.1).mono ?_
        rintro e w5 ⟨rfl, h1⟩
        refine hK.out _ _ ?_ (fun hHeld => ?_)
        · (try dsimp only); (refine keepN HXX.out HPP.out HV0.out HT1.out ?_; repeat (first | exact Below.refl _ _ | assumption | refine bl_drew ?_ | refine bl_then ?_ (by assumption)))
        clear hK K
        try simp only [Act.put, List.setIfInBounds_toArray, List.set_cons_zero, List.set_cons_succ]
        refine wpAnyH_ready (rs := [11]) (by kernel_rfl) (by simp) ?_
        refine AllReadyH.cons (o := { dst := some 37, op := Op.call { callee := Callee.value (Operand.func 13), args := #[Operand.tmp 35, Operand.tmp 36], argTypes := #[31, 5] }, type := 3, pos := "outright.go:97", after := #[{ on := 9, ground := Ground.data }, { on := 10, ground := Ground.data }, { on := 8, ground := Ground.chain }, { on := 5, ground := Ground.guard }], guard := some (5, true) }) rfl (fun K hK => ?_) AllReadyH.nil
        go_simp
        refine (SP.out _ hHeld.2.2.2.1).mono ?_
        rintro e w5 ⟨rfl, h1⟩
        refine hK.out _ _ ?_ (fun hHeld => ?_)
        · (try dsimp only); (refine keepN HXX.out HPP.out HV0.out HT1.out ?_; repeat (first | exact Below.refl _ _ | assumption | refine bl_drew ?_ | refine bl_then ?_ (by assumption)))
        clear hK K
        try simp only [Act.put, List.setIfInBounds_toArray, List.set_cons_zero, List.set_cons_succ]
        refine wpAnyH_take (i := 12) (oi := { dst := some 38, op := Op.binOp BinOp.eql 3 (Operand.tmp 34) (Operand.tmp 37) 3, type := 4, pos := "outright.go:97", after := #[{ on := 8, ground := Ground.data }, { on := 11, ground := Ground.data }, { on := 5, ground := Ground.guard }], guard := some (5, true) }) (v := ?_) rfl (by kernel_rfl) (by kernel_rfl) (by kernel_rfl) (fun _ _ _ h => h) (Or.inl ⟨by rfl, ?_⟩) (by assumption) ?_
        rotate_left
        · (intro w hSw; (try dsimp only at hSw); go_simp; try (with_reducible rfl))
        try simp only [Act.put, List.setIfInBounds_toArray, List.set_cons_zero, List.set_cons_succ]
        refine wpAnyH_take (i := 13) (oi := { dst := some 39, op := Op.pick (Operand.tmp 31) (Operand.tmp 38) (Operand.const (Value.bool false)), type := 4, pos := "outright.go:97", after := #[{ on := 5, ground := Ground.data }, { on := 12, ground := Ground.data }], guard := none }) (v := ?_) rfl (by kernel_rfl) (by kernel_rfl) (by kernel_rfl) (fun _ _ _ h => h) (Or.inl ⟨by rfl, ?_⟩) (by assumption) ?_
        rotate_left
        · (intro w hSw; (try dsimp only at hSw); go_simp; try (with_reducible rfl))
        try simp only [Act.put, List.setIfInBounds_toArray, List.set_cons_zero, List.set_cons_succ]
        refine wpAnyH_take (i := 14) (oi := { dst := some 40, op := Op.move (Operand.tmp 39), type := 4, pos := "outright.go:97", after := #[{ on := 13, ground := Ground.data }, { on := 11, ground := Ground.chain }], guard := none }) (v := ?_) rfl (by kernel_rfl) (by kernel_rfl) (by kernel_rfl) (fun _ _ _ h => h) (Or.inl ⟨by rfl, ?_⟩) (by assumption) ?_
        rotate_left
        · (intro w hSw; (try dsimp only at hSw); go_simp; try (with_reducible rfl))
        try simp only [Act.put, List.setIfInBounds_toArray, List.set_cons_zero, List.set_cons_succ]
        refine wpAnyH_take (i := 15) (oi := { dst := some 41, op := Op.move (Operand.tmp 2), type := 5, pos := "outright.go:97", after := #[{ on := 14, ground := Ground.guard }], guard := some (14, true) }) (v := ?_) rfl (by kernel_rfl) (by kernel_rfl) (by kernel_rfl) (fun _ _ _ h => h) (Or.inl ⟨by rfl, ?_⟩) (by assumption) ?_
        rotate_left
        · (intro w hSw; (try dsimp only at hSw); go_simp; try (with_reducible rfl))
        try simp only [Act.put, List.setIfInBounds_toArray, List.set_cons_zero, List.set_cons_succ]
        refine wpAnyH_take (i := 16) (oi := { dst := some 42, op := Op.binOp BinOp.leq 5 (Operand.tmp 41) (Operand.const (Value.int IntKind.u8 1)) 5, type := 4, pos := "outright.go:97", after := #[{ on := 15, ground := Ground.data }, { on := 14, ground := Ground.guard }], guard := some (14, true) }) (v := ?_) rfl (by kernel_rfl) (by kernel_rfl) (by kernel_rfl) (fun _ _ _ h => h) (Or.inl ⟨by rfl, ?_⟩) (by assumption) ?_
        rotate_left
        · (intro w hSw; (try dsimp only at hSw); go_simp; try (with_reducible rfl))
        try simp only [Act.put, List.setIfInBounds_toArray, List.set_cons_zero, List.set_cons_succ]
        refine wpAnyH_take (i := 17) (oi := { dst := some 43, op := Op.move (Operand.tmp 42), type := 4, pos := "outright.go:97", after := #[{ on := 16, ground := Ground.data }, { on := 14, ground := Ground.chain }, { on := 14, ground := Ground.guard }], guard := some (14, true) }) (v := ?_) rfl (by kernel_rfl) (by kernel_rfl) (by kernel_rfl) (fun _ _ _ h => h) (Or.inl ⟨by rfl, ?_⟩) (by assumption) ?_
        rotate_left
        · (intro w hSw; (try dsimp only at hSw); go_simp; try (with_reducible rfl))
        try simp only [Act.put, List.setIfInBounds_toArray, List.set_cons_zero, List.set_cons_succ]
        refine wpAnyH_take (i := 18) (oi := { dst := some 44, op := Op.fieldAddr 31 (Operand.tmp 3) 0, type := 0, pos := "outright.go:97", after := #[{ on := 17, ground := Ground.guard }], guard := some (17, true) }) (v := ?_) rfl (by kernel_rfl) (by kernel_rfl) (by kernel_rfl) (fun _ _ _ h => h) (Or.inl ⟨by rfl, ?_⟩) (by assumption) ?_
        rotate_left
        · (intro w hSw; (try dsimp only at hSw); go_simp; try (with_reducible rfl))
        try simp only [Act.put, List.setIfInBounds_toArray, List.set_cons_zero, List.set_cons_succ]
        refine wpAnyH_take (i := 19) (oi := { dst := some 45, op := Op.load 5 (Operand.tmp 44), type := 5, pos := "outright.go:97", after := #[{ on := 18, ground := Ground.data }, { on := 17, ground := Ground.guard }], guard := some (17, true) }) (v := ?_) rfl (by kernel_rfl) (by kernel_rfl) (by kernel_rfl) (fun _ _ _ h => h) (Or.inl ⟨by rfl, ?_⟩) (by assumption) ?_
        rotate_left
        · (intro w hSw; (try dsimp only at hSw); go_simp; try (with_reducible rfl))
        try simp only [Act.put, List.setIfInBounds_toArray, List.set_cons_zero, List.set_cons_succ]
        refine wpAnyH_take (i := 20) (oi := { dst := some 46, op := Op.binOp BinOp.lss 5 (Operand.tmp 45) (Operand.const (Value.int IntKind.u8 9)) 5, type := 4, pos := "outright.go:97", after := #[{ on := 19, ground := Ground.data }, { on := 17, ground := Ground.guard }], guard := some (17, true) }) (v := ?_) rfl (by kernel_rfl) (by kernel_rfl) (by kernel_rfl) (fun _ _ _ h => h) (Or.inl ⟨by rfl, ?_⟩) (by assumption) ?_
        rotate_left
        · (intro w hSw; (try dsimp only at hSw); go_simp; try (with_reducible rfl))
        try simp only [Act.put, List.setIfInBounds_toArray, List.set_cons_zero, List.set_cons_succ]
        refine wpAnyH_take (i := 21) (oi := { dst := some 47, op := Op.pick (Operand.tmp 43) (Operand.tmp 46) (Operand.const (Value.bool false)), type := 4, pos := "outright.go:97", after := #[{ on := 17, ground := Ground.data }, { on := 20, ground := Ground.data }, { on := 14, ground := Ground.guard }], guard := some (14, true) }) (v := ?_) rfl (by kernel_rfl) (by kernel_rfl) (by kernel_rfl) (fun _ _ _ h => h) (Or.inl ⟨by rfl, ?_⟩) (by assumption) ?_
        rotate_left
        · (intro w hSw; (try dsimp only at hSw); go_simp; try (with_reducible rfl))
        try simp only [Act.put, List.setIfInBounds_toArray, List.set_cons_zero, List.set_cons_succ]
        refine wpAnyH_take (i := 22) (oi := { dst := some 48, op := Op.move (Operand.tmp 47), type := 4, pos := "outright.go:97", after := #[{ on := 21, ground := Ground.data }, { on := 17, ground := Ground.chain }, { on := 14, ground := Ground.guard }], guard := some (14, true) }) (v := ?_) rfl (by kernel_rfl) (by kernel_rfl) (by kernel_rfl) (fun _ _ _ h => h) (Or.inl ⟨by rfl, ?_⟩) (by assumption) ?_
        rotate_left
        · (intro w hSw; (try dsimp only at hSw); go_simp; try (with_reducible rfl))
        try simp only [Act.put, List.setIfInBounds_toArray, List.set_cons_zero, List.set_cons_succ]
        refine wpAnyH_take (i := 23) (oi := { dst := some 49, op := Op.load 31 (Operand.tmp 3), type := 31, pos := "outright.go:97", after := #[{ on := 22, ground := Ground.guard }], guard := some (22, false) }) (v := ?_) rfl (by kernel_rfl) (by kernel_rfl) (by kernel_rfl) (fun _ _ _ h => h) (Or.inl ⟨by rfl, ?_⟩) (by assumption) ?_
        rotate_left
        · (intro w hSw; (try dsimp only at hSw); go_simp; try (with_reducible rfl))
        try simp only [Act.put, List.setIfInBounds_toArray, List.set_cons_zero, List.set_cons_succ]
        refine wpAnyH_take (i := 24) (oi := { dst := some 50, op := Op.move (Operand.tmp 2), type := 5, pos := "outright.go:97", after := #[{ on := 22, ground := Ground.guard }], guard := some (22, false) }) (v := ?_) rfl (by kernel_rfl) (by kernel_rfl) (by kernel_rfl) (fun _ _ _ h => h) (Or.inl ⟨by rfl, ?_⟩) (by assumption) ?_
        rotate_left
        · (intro w hSw; (try dsimp only at hSw); go_simp; try (with_reducible rfl))
        try simp only [Act.put, List.setIfInBounds_toArray, List.set_cons_zero, List.set_cons_succ]
        refine wpAnyH_ready (rs := [25]) (by kernel_rfl) (by simp) ?_
        refine AllReadyH.cons (o := { dst := some 51, op := Op.call { callee := Callee.value (Operand.func 13), args := #[Operand.tmp 49, Operand.tmp 50], argTypes := #[31, 5] }, type := 3, pos := "outright.go:97", after := #[{ on := 23, ground := Ground.data }, { on := 24, ground := Ground.data }, { on := 22, ground := Ground.chain }, { on := 22, ground := Ground.guard }], guard := some (22, false) }) rfl (fun K hK => ?_) AllReadyH.nil
        go_simp
        refine (SP.out _ hHeld.2.2.2.1).mono ?_
        rintro e w5 ⟨rfl, h1⟩
        refine hK.out _ _ ?_ (fun hHeld => ?_)
        · (try dsimp only); (refine keepN HXX.out HPP.out HV0.out HT1.out ?_; repeat (first | exact Below.refl _ _ | assumption | refine bl_drew ?_ | refine bl_then ?_ (by assumption)))
        clear hK K
        try simp only [Act.put, List.setIfInBounds_toArray, List.set_cons_zero, List.set_cons_succ]
        refine wpAnyH_take (i := 26) (oi := { dst := some 52, op := Op.binOp BinOp.eql 3 (Operand.tmp 51) (Operand.const (Value.int IntKind.i64 0)) 3, type := 4, pos := "outright.go:97", after := #[{ on := 25, ground := Ground.data }, { on := 22, ground := Ground.guard }], guard := some (22, false) }) (v := ?_) rfl (by kernel_rfl) (by kernel_rfl) (by kernel_rfl) (fun _ _ _ h => h) (Or.inl ⟨by rfl, ?_⟩) (by assumption) ?_
        rotate_left
        · (intro w hSw; (try dsimp only at hSw); go_simp; try (with_reducible rfl))
        try simp only [Act.put, List.setIfInBounds_toArray, List.set_cons_zero, List.set_cons_succ]
        refine wpAnyH_take (i := 27) (oi := { dst := some 53, op := Op.pick (Operand.tmp 48) (Operand.const (Value.bool true)) (Operand.tmp 52), type := 4, pos := "outright.go:97", after := #[{ on := 22, ground := Ground.data }, { on := 26, ground := Ground.data }, { on := 14, ground := Ground.guard }], guard := some (14, true) }) (v := ?_) rfl (by kernel_rfl) (by kernel_rfl) (by kernel_rfl) (fun _ _ _ h => h) (Or.inl ⟨by rfl, ?_⟩) (by assumption) ?_
        rotate_left
        · (intro w hSw; (try dsimp only at hSw); go_simp; try (with_reducible rfl))
        try simp only [Act.put, List.setIfInBounds_toArray, List.set_cons_zero, List.set_cons_succ]
        refine wpAnyH_take (i := 28) (oi := { dst := some 54, op := Op.pick (Operand.tmp 40) (Operand.tmp 53) (Operand.const (Value.bool false)), type := 4, pos := "outright.go:97", after := #[{ on := 14, ground := Ground.data }, { on := 27, ground := Ground.data }], guard := none }) (v := ?_) rfl (by kernel_rfl) (by kernel_rfl) (by kernel_rfl) (fun _ _ _ h => h) (Or.inl ⟨by rfl, ?_⟩) (by assumption) ?_
        rotate_left
        · (intro w hSw; (try dsimp only at hSw); go_simp; try (with_reducible rfl))
        try simp only [Act.put, List.setIfInBounds_toArray, List.set_cons_zero, List.set_cons_succ]
        refine wpAnyH_take (i := 29) (oi := { dst := some 6, op := Op.assign (Operand.tmp 54), type := 4, pos := "outright.go:97", after := #[{ on := 28, ground := Ground.data }, { on := 25, ground := Ground.chain }, { on := 0, ground := Ground.phase }, { on := 1, ground := Ground.phase }, { on := 2, ground := Ground.phase }, { on := 3, ground := Ground.phase }, { on := 4, ground := Ground.phase }, { on := 5, ground := Ground.phase }, { on := 6, ground := Ground.phase }, { on := 7, ground := Ground.phase }, { on := 8, ground := Ground.phase }, { on := 9, ground := Ground.phase }, { on := 10, ground := Ground.phase }, { on := 11, ground := Ground.phase }, { on := 12, ground := Ground.phase }, { on := 13, ground := Ground.phase }, { on := 14, ground := Ground.phase }, { on := 15, ground := Ground.phase }, { on := 16, ground := Ground.phase }, { on := 17, ground := Ground.phase }, { on := 18, ground := Ground.phase }, { on := 19, ground := Ground.phase }, { on := 20, ground := Ground.phase }, { on := 21, ground := Ground.phase }, { on := 22, ground := Ground.phase }, { on := 23, ground := Ground.phase }, { on := 24, ground := Ground.phase }, { on := 25, ground := Ground.phase }, { on := 26, ground := Ground.phase }, { on := 27, ground := Ground.phase }, { on := 28, ground := Ground.phase }], guard := none }) (v := ?_) rfl (by kernel_rfl) (by kernel_rfl) (by kernel_rfl) (fun _ _ _ h => h) (Or.inl ⟨by rfl, ?_⟩) (by assumption) ?_
        rotate_left
        · (intro w hSw; (try dsimp only at hSw); go_simp; try (with_reducible rfl))
        try simp only [Act.put, List.setIfInBounds_toArray, List.set_cons_zero, List.set_cons_succ]
        refine wpAnyH_done (by kernel_rfl) ?_ _
        have hq := hHeld.2.2.2.2
        go_wp2
        go_ret
        exact ⟨rfl, hb0.trans (hq.mono hb0.size)⟩
      · have d1 : decide ((c : Int) ≤ 1) = false := decide_eq_false (by omega)
        clear k1 hk
        go_upto_region 5 with fail
        refine wp_region_held_drew (S := (fun W => (IsPos W g ∧ rowOf W g = posA (ntN p q)) ∧ (IsPos W w.heap.size ∧ rowOf W w.heap.size = posA p) ∧ W.cell? ⟨w.heap.size, 0, none⟩ = some (.int .u8 v) ∧ Tab W ∧ Below wc.heap.size wc W)) (by kernel_rfl) ?_ (fun hHeld => ?_)
        · (try dsimp only); (refine keepN HXX.out HPP.out HV0.out HT1.out ?_; repeat (first | exact Below.refl _ _ | assumption | refine bl_drew ?_ | refine bl_then ?_ (by assumption)))
        refine wpAnyH_take (i := 0) (oi := { dst := some 26, op := Op.load 31 (Operand.tmp 7), type := 31, pos := "outright.go:97", after := #[], guard := none }) (v := ?_) rfl (by kernel_rfl) (by kernel_rfl) (by kernel_rfl) (fun _ _ _ h => h) (Or.inl ⟨by rfl, ?_⟩) (by assumption) ?_
        rotate_left
        · (intro w hSw; (try dsimp only at hSw); go_simp; try (with_reducible rfl))
        try simp only [Act.put, List.setIfInBounds_toArray, List.set_cons_zero, List.set_cons_succ]
        refine wpAnyH_take (i := 2) (oi := { dst := some 28, op := Op.load 31 (Operand.tmp 3), type := 31, pos := "outright.go:97", after := #[], guard := none }) (v := ?_) rfl (by kernel_rfl) (by kernel_rfl) (by kernel_rfl) (fun _ _ _ h => h) (Or.inl ⟨by rfl, ?_⟩) (by assumption) ?_
        rotate_left
        · (intro w hSw; (try dsimp only at hSw); go_simp; try (with_reducible rfl))
        try simp only [Act.put, List.setIfInBounds_toArray, List.set_cons_zero, List.set_cons_succ]
        refine wpAnyH_ready (rs := [1]) (by kernel_rfl) (by simp) ?_
        refine AllReadyH.cons (o := { dst := some 27, op := Op.call { callee := Callee.value (Operand.func 15), args := #[Operand.tmp 26], argTypes := #[31] }, type := 3, pos := "outright.go:97", after := #[{ on := 0, ground := Ground.data }], guard := none }) rfl (fun K hK => ?_) AllReadyH.nil
        go_simp
        refine (GX.out _ hHeld.2.2.2.1).mono ?_
        rintro e w5 ⟨rfl, h1⟩
        refine hK.out _ _ ?_ (fun hHeld => ?_)
        · (try dsimp only); (refine keepN HXX.out HPP.out HV0.out HT1.out ?_; repeat (first | exact Below.refl _ _ | assumption | refine bl_drew ?_ | refine bl_then ?_ (by assumption)))
        clear hK K
        try simp only [Act.put, List.setIfInBounds_toArray, List.set_cons_zero, List.set_cons_succ]
        refine wpAnyH_ready (rs := [3]) (by kernel_rfl) (by simp) ?_
        refine AllReadyH.cons (o := { dst := some 29, op := Op.call { callee := Callee.value (Operand.func 15), args := #[Operand.tmp 28], argTypes := #[31] }, type := 3, pos := "outright.go:97", after := #[{ on := 2, ground := Ground.data }, { on := 1, ground := Ground.chain }], guard := none }) rfl (fun K hK => ?_) AllReadyH.nil
        go_simp
        refine (GP.out _ hHeld.2.2.2.1).mono ?_
        rintro e w5 ⟨rfl, h1⟩
        refine hK.out _ _ ?_ (fun hHeld => ?_)
        · (try dsimp only); (refine keepN HXX.out HPP.out HV0.out HT1.out ?_; repeat (first | exact Below.refl _ _ | assumption | refine bl_drew ?_ | refine bl_then ?_ (by assumption)))
        clear hK K
        try simp only [Act.put, List.setIfInBounds_toArray, List.set_cons_zero, List.set_cons_succ]
        refine wpAnyH_take (i := 4) (oi := { dst := some 30, op := Op.binOp BinOp.eql 3 (Operand.tmp 27) (Operand.tmp 29) 3, type := 4, pos := "outright.go:97", after := #[{ on := 1, ground := Ground.data }, { on := 3, ground := Ground.data }], guard := none }) (v := ?_) rfl (by kernel_rfl) (by kernel_rfl) (by kernel_rfl) (fun _ _ _ h => h) (Or.inl ⟨by rfl, ?_⟩) (by assumption) ?_
        rotate_left
        · (intro w hSw; (try dsimp only at hSw); go_simp; try (with_reducible rfl))
        try simp only [Act.put, List.setIfInBounds_toArray, List.set_cons_zero, List.set_cons_succ]
        refine wpAnyH_take (i := 5) (oi := { dst := some 31, op := Op.move (Operand.tmp 30), type := 4, pos := "outright.go:97", after := #[{ on := 4, ground := Ground.data }, { on := 3, ground := Ground.chain }], guard := none }) (v := ?_) rfl (by kernel_rfl) (by kernel_rfl) (by kernel_rfl) (fun _ _ _ h => h) (Or.inl ⟨by rfl, ?_⟩) (by assumption) ?_
        rotate_left
        · (intro w hSw; (try dsimp only at hSw); go_simp; try (with_reducible rfl))
        try simp only [Act.put, List.setIfInBounds_toArray, List.set_cons_zero, List.set_cons_succ]
        refine wpAnyH_take (i := 6) (oi := { dst := some 32, op := Op.load 31 (Operand.tmp 7), type := 31, pos := "outright.go:97", after := #[{ on := 5, ground := Ground.guard }], guard := some (5, true) }) (v := ?_) rfl (by kernel_rfl) (by kernel_rfl) (by kernel_rfl) (fun _ _ _ h => h) (Or.inl ⟨by rfl, ?_⟩) (by assumption) ?_
        rotate_left
        · (intro w hSw; (try dsimp only at hSw); go_simp; try (with_reducible rfl))
        try simp only [Act.put, List.setIfInBounds_toArray, List.set_cons_zero, List.set_cons_succ]
        refine wpAnyH_take (i := 7) (oi := { dst := some 33, op := Op.move (Operand.tmp 2), type := 5, pos := "outright.go:97", after := #[{ on := 5, ground := Ground.guard }], guard := some (5, true) }) (v := ?_) rfl (by kernel_rfl) (by kernel_rfl) (by kernel_rfl) (fun _ _ _ h => h) (Or.inl ⟨by rfl, ?_⟩) (by assumption) ?_
        rotate_left
        · (intro w hSw; (try dsimp only at hSw); go_simp; try (with_reducible rfl))
        try simp only [Act.put, List.setIfInBounds_toArray, List.set_cons_zero, List.set_cons_succ]
        refine wpAnyH_take (i := 9) (oi := { dst := some 35, op := Op.load 31 (Operand.tmp 3), type := 31, pos := "outright.go:97", after := #[{ on := 5, ground := Ground.guard }], guard := some (5, true) }) (v := ?_) rfl (by kernel_rfl) (by kernel_rfl) (by kernel_rfl) (fun _ _ _ h => h) (Or.inl ⟨by rfl, ?_⟩) (by assumption) ?_
        rotate_left
        · (intro w hSw; (try dsimp only at hSw); go_simp; try (with_reducible rfl))
        try simp only [Act.put, List.setIfInBounds_toArray, List.set_cons_zero, List.set_cons_succ]
        refine wpAnyH_take (i := 10) (oi := { dst := some 36, op := Op.move (Operand.tmp 2), type := 5, pos := "outright.go:97", after := #[{ on := 5, ground := Ground.guard }], guard := some (5, true) }) (v := ?_) rfl (by kernel_rfl) (by kernel_rfl) (by kernel_rfl) (fun _ _ _ h => h) (Or.inl ⟨by rfl, ?_⟩) (by assumption) ?_
        rotate_left
        · (intro w hSw; (try dsimp only at hSw); go_simp; try (with_reducible rfl))
        try simp only [Act.put, List.setIfInBounds_toArray, List.set_cons_zero, List.set_cons_succ]
        refine wpAnyH_ready (rs := [8]) (by kernel_rfl) (by simp) ?_
        refine AllReadyH.cons (o := { dst := some 34, op := Op.call { callee := Callee.value (Operand.func 13), args := #[Operand.tmp 32, Operand.tmp 33], argTypes := #[31, 5] }, type := 3, pos := "outright.go:97", after := #[{ on := 6, ground := Ground.data }, { on := 7, ground := Ground.data }, { on := 5, ground := Ground.chain }, { on := 5, ground := Ground.guard }], guard := some (5, true) }) rfl (fun K hK => ?_) AllReadyH.nil
        go_simp
        refine (SX.out _ hHeld.2.2.2.1).mono ?_
        rintro e w5 ⟨rfl, h1⟩
        refine hK.out _ _ ?_ (fun hHeld => ?_)
        · (try dsimp only); (refine keepN HXX.out HPP.out HV0.out HT1.out ?_; repeat (first | exact Below.refl _ _ | assumption | refine bl_drew ?_ | refine bl_then ?_ (by assumption)))
        clear hK K
        try simp only [Act.put, List.setIfInBounds_toArray, List.set_cons_zero, List.set_cons_succ]
        refine wpAnyH_ready (rs := [11]) (by kernel_rfl) (by simp) ?_
        refine AllReadyH.cons (o := { dst := some 37, op := Op.call { callee := Callee.value (Operand.func 13), args := #[Operand.tmp 35, Operand.tmp 36], argTypes := #[31, 5] }, type := 3, pos := "outright.go:97", after := #[{ on := 9, ground := Ground.data }, { on := 10, ground := Ground.data }, { on := 8, ground := Ground.chain }, { on := 5, ground := Ground.guard }], guard := some (5, true) }) rfl (fun K hK => ?_) AllReadyH.nil
        go_simp
        refine (SP.out _ hHeld.2.2.2.1).mono ?_
        rintro e w5 ⟨rfl, h1⟩
        refine hK.out _ _ ?_ (fun hHeld => ?_)
        · (try dsimp only); (refine keepN HXX.out HPP.out HV0.out HT1.out ?_; repeat (first | exact Below.refl _ _ | assumption | refine bl_drew ?_ | refine bl_then ?_ (by assumption)))
        clear hK K
        try simp only [Act.put, List.setIfInBounds_toArray, List.set_cons_zero, List.set_cons_succ]
        refine wpAnyH_take (i := 12) (oi := { dst := some 38, op := Op.binOp BinOp.eql 3 (Operand.tmp 34) (Operand.tmp 37) 3, type := 4, pos := "outright.go:97", after := #[{ on := 8, ground := Ground.data }, { on := 11, ground := Ground.data }, { on := 5, ground := Ground.guard }], guard := some (5, true) }) (v := ?_) rfl (by kernel_rfl) (by kernel_rfl) (by kernel_rfl) (fun _ _ _ h => h) (Or.inl ⟨by rfl, ?_⟩) (by assumption) ?_
        rotate_left
        · (intro w hSw; (try dsimp only at hSw); go_simp; try (with_reducible rfl))
        try simp only [Act.put, List.setIfInBounds_toArray, List.set_cons_zero, List.set_cons_succ]
        refine wpAnyH_take (i := 13) (oi := { dst := some 39, op := Op.pick (Operand.tmp 31) (Operand.tmp 38) (Operand.const (Value.bool false)), type := 4, pos := "outright.go:97", after := #[{ on := 5, ground := Ground.data }, { on := 12, ground := Ground.data }], guard := none }) (v := ?_) rfl (by kernel_rfl) (by kernel_rfl) (by kernel_rfl) (fun _ _ _ h => h) (Or.inl ⟨by rfl, ?_⟩) (by assumption) ?_
        rotate_left
        · (intro w hSw; (try dsimp only at hSw); go_simp; try (with_reducible rfl))
        try simp only [Act.put, List.setIfInBounds_toArray, List.set_cons_zero, List.set_cons_succ]
        refine wpAnyH_take (i := 14) (oi := { dst := some 40, op := Op.move (Operand.tmp 39), type := 4, pos := "outright.go:97", after := #[{ on := 13, ground := Ground.data }, { on := 11, ground := Ground.chain }], guard := none }) (v := ?_) rfl (by kernel_rfl) (by kernel_rfl) (by kernel_rfl) (fun _ _ _ h => h) (Or.inl ⟨by rfl, ?_⟩) (by assumption) ?_
        rotate_left
        · (intro w hSw; (try dsimp only at hSw); go_simp; try (with_reducible rfl))
        try simp only [Act.put, List.setIfInBounds_toArray, List.set_cons_zero, List.set_cons_succ]
        refine wpAnyH_take (i := 15) (oi := { dst := some 41, op := Op.move (Operand.tmp 2), type := 5, pos := "outright.go:97", after := #[{ on := 14, ground := Ground.guard }], guard := some (14, true) }) (v := ?_) rfl (by kernel_rfl) (by kernel_rfl) (by kernel_rfl) (fun _ _ _ h => h) (Or.inl ⟨by rfl, ?_⟩) (by assumption) ?_
        rotate_left
        · (intro w hSw; (try dsimp only at hSw); go_simp; try (with_reducible rfl))
        try simp only [Act.put, List.setIfInBounds_toArray, List.set_cons_zero, List.set_cons_succ]
        refine wpAnyH_take (i := 16) (oi := { dst := some 42, op := Op.binOp BinOp.leq 5 (Operand.tmp 41) (Operand.const (Value.int IntKind.u8 1)) 5, type := 4, pos := "outright.go:97", after := #[{ on := 15, ground := Ground.data }, { on := 14, ground := Ground.guard }], guard := some (14, true) }) (v := ?_) rfl (by kernel_rfl) (by kernel_rfl) (by kernel_rfl) (fun _ _ _ h => h) (Or.inl ⟨by rfl, ?_⟩) (by assumption) ?_
        rotate_left
        · (intro w hSw; (try dsimp only at hSw); go_simp; try (with_reducible rfl))
        try simp only [Act.put, List.setIfInBounds_toArray, List.set_cons_zero, List.set_cons_succ]
        refine wpAnyH_take (i := 17) (oi := { dst := some 43, op := Op.move (Operand.tmp 42), type := 4, pos := "outright.go:97", after := #[{ on := 16, ground := Ground.data }, { on := 14, ground := Ground.chain }, { on := 14, ground := Ground.guard }], guard := some (14, true) }) (v := ?_) rfl (by kernel_rfl) (by kernel_rfl) (by kernel_rfl) (fun _ _ _ h => h) (Or.inl ⟨by rfl, ?_⟩) (by assumption) ?_
        rotate_left
        · (intro w hSw; (try dsimp only at hSw); go_simp; try (with_reducible rfl))
        try simp only [Act.put, List.setIfInBounds_toArray, List.set_cons_zero, List.set_cons_succ]
        refine wpAnyH_take (i := 18) (oi := { dst := some 44, op := Op.fieldAddr 31 (Operand.tmp 3) 0, type := 0, pos := "outright.go:97", after := #[{ on := 17, ground := Ground.guard }], guard := some (17, true) }) (v := undef) rfl (by kernel_rfl) (by kernel_rfl) (by kernel_rfl) (fun _ _ _ h => h) (Or.inr ⟨by rfl, rfl⟩) (by assumption) ?_
        try simp only [Act.put, List.setIfInBounds_toArray, List.set_cons_zero, List.set_cons_succ]
        refine wpAnyH_take (i := 19) (oi := { dst := some 45, op := Op.load 5 (Operand.tmp 44), type := 5, pos := "outright.go:97", after := #[{ on := 18, ground := Ground.data }, { on := 17, ground := Ground.guard }], guard := some (17, true) }) (v := undef) rfl (by kernel_rfl) (by kernel_rfl) (by kernel_rfl) (fun _ _ _ h => h) (Or.inr ⟨by rfl, rfl⟩) (by assumption) ?_
        try simp only [Act.put, List.setIfInBounds_toArray, List.set_cons_zero, List.set_cons_succ]
        refine wpAnyH_take (i := 20) (oi := { dst := some 46, op := Op.binOp BinOp.lss 5 (Operand.tmp 45) (Operand.const (Value.int IntKind.u8 9)) 5, type := 4, pos := "outright.go:97", after := #[{ on := 19, ground := Ground.data }, { on := 17, ground := Ground.guard }], guard := some (17, true) }) (v := undef) rfl (by kernel_rfl) (by kernel_rfl) (by kernel_rfl) (fun _ _ _ h => h) (Or.inr ⟨by rfl, rfl⟩) (by assumption) ?_
        try simp only [Act.put, List.setIfInBounds_toArray, List.set_cons_zero, List.set_cons_succ]
        refine wpAnyH_take (i := 21) (oi := { dst := some 47, op := Op.pick (Operand.tmp 43) (Operand.tmp 46) (Operand.const (Value.bool false)), type := 4, pos := "outright.go:97", after := #[{ on := 17, ground := Ground.data }, { on := 20, ground := Ground.data }, { on := 14, ground := Ground.guard }], guard := some (14, true) }) (v := ?_) rfl (by kernel_rfl) (by kernel_rfl) (by kernel_rfl) (fun _ _ _ h => h) (Or.inl ⟨by rfl, ?_⟩) (by assumption) ?_
        rotate_left
        · (intro w hSw; (try dsimp only at hSw); go_simp; try (with_reducible rfl))
        try simp only [Act.put, List.setIfInBounds_toArray, List.set_cons_zero, List.set_cons_succ]
        refine wpAnyH_take (i := 22) (oi := { dst := some 48, op := Op.move (Operand.tmp 47), type := 4, pos := "outright.go:97", after := #[{ on := 21, ground := Ground.data }, { on := 17, ground := Ground.chain }, { on := 14, ground := Ground.guard }], guard := some (14, true) }) (v := ?_) rfl (by kernel_rfl) (by kernel_rfl) (by kernel_rfl) (fun _ _ _ h => h) (Or.inl ⟨by rfl, ?_⟩) (by assumption) ?_
        rotate_left
        · (intro w hSw; (try dsimp only at hSw); go_simp; try (with_reducible rfl))
        try simp only [Act.put, List.setIfInBounds_toArray, List.set_cons_zero, List.set_cons_succ]
        refine wpAnyH_take (i := 23) (oi := { dst := some 49, op := Op.load 31 (Operand.tmp 3), type := 31, pos := "outright.go:97", after := #[{ on := 22, ground := Ground.guard }], guard := some (22, false) }) (v := ?_) rfl (by kernel_rfl) (by kernel_rfl) (by kernel_rfl) (fun _ _ _ h => h) (Or.inl ⟨by rfl, ?_⟩) (by assumption) ?_
        rotate_left
        · (intro w hSw; (try dsimp only at hSw); go_simp; try (with_reducible rfl))
        try simp only [Act.put, List.setIfInBounds_toArray, List.set_cons_zero, List.set_cons_succ]
        refine wpAnyH_take (i := 24) (oi := { dst := some 50, op := Op.move (Operand.tmp 2), type := 5, pos := "outright.go:97", after := #[{ on := 22, ground := Ground.guard }], guard := some (22, false) }) (v := ?_) rfl (by kernel_rfl) (by kernel_rfl) (by kernel_rfl) (fun _ _ _ h => h) (Or.inl ⟨by rfl, ?_⟩) (by assumption) ?_
        rotate_left
        · (intro w hSw; (try dsimp only at hSw); go_simp; try (with_reducible rfl))
        try simp only [Act.put, List.setIfInBounds_toArray, List.set_cons_zero, List.set_cons_succ]
        refine wpAnyH_ready (rs := [25]) (by kernel_rfl) (by simp) ?_
        refine AllReadyH.cons (o := { dst := some 51, op := Op.call { callee := Callee.value (Operand.func 13), args := #[Operand.tmp 49, Operand.tmp 50], argTypes := #[31, 5] }, type := 3, pos := "outright.go:97", after := #[{ on := 23, ground := Ground.data }, { on := 24, ground := Ground.data }, { on := 22, ground := Ground.chain }, { on := 22, ground := Ground.guard }], guard := some (22, false) }) rfl (fun K hK => ?_) AllReadyH.nil
        go_simp
        refine (SP.out _ hHeld.2.2.2.1).mono ?_
        rintro e w5 ⟨rfl, h1⟩
        refine hK.out _ _ ?_ (fun hHeld => ?_)
        · (try dsimp only); (refine keepN HXX.out HPP.out HV0.out HT1.out ?_; repeat (first | exact Below.refl _ _ | assumption | refine bl_drew ?_ | refine bl_then ?_ (by assumption)))
        clear hK K
        try simp only [Act.put, List.setIfInBounds_toArray, List.set_cons_zero, List.set_cons_succ]
        refine wpAnyH_take (i := 26) (oi := { dst := some 52, op := Op.binOp BinOp.eql 3 (Operand.tmp 51) (Operand.const (Value.int IntKind.i64 0)) 3, type := 4, pos := "outright.go:97", after := #[{ on := 25, ground := Ground.data }, { on := 22, ground := Ground.guard }], guard := some (22, false) }) (v := ?_) rfl (by kernel_rfl) (by kernel_rfl) (by kernel_rfl) (fun _ _ _ h => h) (Or.inl ⟨by rfl, ?_⟩) (by assumption) ?_
        rotate_left
        · (intro w hSw; (try dsimp only at hSw); go_simp; try (with_reducible rfl))
        try simp only [Act.put, List.setIfInBounds_toArray, List.set_cons_zero, List.set_cons_succ]
        refine wpAnyH_take (i := 27) (oi := { dst := some 53, op := Op.pick (Operand.tmp 48) (Operand.const (Value.bool true)) (Operand.tmp 52), type := 4, pos := "outright.go:97", after := #[{ on := 22, ground := Ground.data }, { on := 26, ground := Ground.data }, { on := 14, ground := Ground.guard }], guard := some (14, true) }) (v := ?_) rfl (by kernel_rfl) (by kernel_rfl) (by kernel_rfl) (fun _ _ _ h => h) (Or.inl ⟨by rfl, ?_⟩) (by assumption) ?_
        rotate_left
        · (intro w hSw; (try dsimp only at hSw); go_simp; try (with_reducible rfl))
        try simp only [Act.put, List.setIfInBounds_toArray, List.set_cons_zero, List.set_cons_succ]
        refine wpAnyH_take (i := 28) (oi := { dst := some 54, op := Op.pick (Operand.tmp 40) (Operand.tmp 53) (Operand.const (Value.bool false)), type := 4, pos := "outright.go:97", after := #[{ on := 14, ground := Ground.data }, { on := 27, ground := Ground.data }], guard := none }) (v := ?_) rfl (by kernel_rfl) (by kernel_rfl) (by kernel_rfl) (fun _ _ _ h => h) (Or.inl ⟨by rfl, ?_⟩) (by assumption) ?_
        rotate_left
        · (intro w hSw; (try dsimp only at hSw); go_simp; try (with_reducible rfl))
        try simp only [Act.put, List.setIfInBounds_toArray, List.set_cons_zero, List.set_cons_succ]
        refine wpAnyH_take (i := 29) (oi := { dst := some 6, op := Op.assign (Operand.tmp 54), type := 4, pos := "outright.go:97", after := #[{ on := 28, ground := Ground.data }, { on := 25, ground := Ground.chain }, { on := 0, ground := Ground.phase }, { on := 1, ground := Ground.phase }, { on := 2, ground := Ground.phase }, { on := 3, ground := Ground.phase }, { on := 4, ground := Ground.phase }, { on := 5, ground := Ground.phase }, { on := 6, ground := Ground.phase }, { on := 7, ground := Ground.phase }, { on := 8, ground := Ground.phase }, { on := 9, ground := Ground.phase }, { on := 10, ground := Ground.phase }, { on := 11, ground := Ground.phase }, { on := 12, ground := Ground.phase }, { on := 13, ground := Ground.phase }, { on := 14, ground := Ground.phase }, { on := 15, ground := Ground.phase }, { on := 16, ground := Ground.phase }, { on := 17, ground := Ground.phase }, { on := 18, ground := Ground.phase }, { on := 19, ground := Ground.phase }, { on := 20, ground := Ground.phase }, { on := 21, ground := Ground.phase }, { on := 22, ground := Ground.phase }, { on := 23, ground := Ground.phase }, { on := 24, ground := Ground.phase }, { on := 25, ground := Ground.phase }, { on := 26, ground := Ground.phase }, { on := 27, ground := Ground.phase }, { on := 28, ground := Ground.phase }], guard := none }) (v := ?_) rfl (by kernel_rfl) (by kernel_rfl) (by kernel_rfl) (fun _ _ _ h => h) (Or.inl ⟨by rfl, ?_⟩) (by assumption) ?_
        rotate_left
        · (intro w hSw; (try dsimp only at hSw); go_simp; try (with_reducible rfl))
        try simp only [Act.put, List.setIfInBounds_toArray, List.set_cons_zero, List.set_cons_succ]
        refine wpAnyH_done (by kernel_rfl) ?_ _
        have hq := hHeld.2.2.2.2
        go_wp2
        go_ret
        exact ⟨rfl, hb0.trans (hq.mono hb0.size)⟩

theorem evalNothing_walk (p q : Nat → Int) (a2 : Int) (w0 : PosOk p) (w1 : PosOk q) (w2 : (Lit.int .u8 a2).wf = true) (w : World) (hT : Tab w) :
    Calls Tryd.prog 6 #[.agg (posA p), .agg (posA q), .int .u8 a2] w fun e w' => e = .returned (.bool true) ∧ Below w.heap.size w w' := by
  obtain ⟨x0, x1⟩ := wf_u8 w2
  obtain ⟨z0, z1⟩ := w0.u8 0 (by decide) rfl
  obtain ⟨c, rfl⟩ : ∃ c : Nat, a2 = c := ⟨a2.toNat, by omega⟩
  obtain ⟨v, hv⟩ : ∃ v : Nat, p 0 = v := ⟨(p 0).toNat, by omega⟩
  exact evalNothing_1 p q c v w0 w1 hv (by omega) (by omega) w hT

end Go.Proofs.YtccdelpiflcipaaDoor
