/- The walk of DropTurn (written by gen_dturn.py). -/
import Derived.Test.YtkkabacdiefabaaDoorDA
import Derived.Test.YtkkabacdiefabaaDoorD9
import Derived.Test.YtkkabacdiefabaaDoorAwD
namespace Go.Proofs.YtkkabacdiefabaaDoor
open Go Go.RowKit
set_option linter.unusedVariables false

theorem dropK_same (n m : Nat → Int) (t : Nat) (hb : ∀ j, j < 64 → n (1 + j) = m (1 + j)) (hp : ∀ j, j < 5 → n (67 + 6 * t + j) = m (67 + 6 * t + j)) : ∀ k, k ≤ 5 → dropK n t k = dropK m t k
  | 0, _ => rfl
  | k + 1, hk => by
    have ih := dropK_same n m t hb hp k (by omega)
    unfold dropK
    have hw : whB n (k + 1) = whB m (k + 1) := by unfold whB; rw [allN_same n m hb]
    rw [ih, hp k (by omega), hw]
theorem dropL_same (n m : Nat → Int) (v t : Nat) (hb : ∀ j, j < 64 → n (1 + j) = m (1 + j)) (hp : ∀ j, j < 5 → n (67 + 6 * t + j) = m (67 + 6 * t + j)) : dropL n v t = dropL m v t := by
  unfold dropL
  rw [dropK_same n m t hb hp 5 (Nat.le_refl 5)]
theorem keepT2 {X W : World} {g q : Nat} {n m : Nat → Int} (h : PosAt X g n) (k : PosAt X q m) (hT : Tab X) (hb : Below X.heap.size X W) :
    (IsPos W g ∧ rowOf W g = posA n) ∧ (IsPos W q ∧ rowOf W q = posA m) ∧ Tab W ∧ Below X.heap.size X W :=
  ⟨(h.below hb h.lt).rules, (k.below hb k.lt).rules, hT.below hb (Nat.le_refl _), hb⟩
theorem PosAt.setT {w : World} {g : Nat} {n : Nat → Int} (h : PosAt w g n) (i : Nat) (x : Int) {k : IntKind} (hk : k = kindAt i) : PosAt (w.setCell ⟨g, i, none⟩ (.int k x)) g (upd n i x) := by
  subst hk; exact h.set i x

set_option maxHeartbeats 4000000 in
theorem dt_out (n : Nat → Int) (hn : PosOk n) (a1 a2 : Int) (v t : Nat) (hv : n 0 = v) (ht : n 78 = t) (hv9 : v ≤ 255) (h : 1 < t) (w : World) (hT : Tab w) :
    Calls Tryd.prog 8 #[.agg (posA n), .int .u8 a1, .int .u8 a2] w fun e w' => e = .returned (.bool true) ∧ Below w.heap.size w w' := by
  have GD : Hid (∀ W, Calls Tryd.prog 10 #[.agg (posA n)] W fun e w' => e = .returned (.slice none 0 0) ∧ Below W.heap.size W w') := fun W => drop_none n hn v t hv ht hv9 (fun h2 => by omega) W
  have HT0 := hideIt hT
  obtain ⟨X, hX⟩ : ∃ X, w.alloc (.cells (posA n) 31) = X := ⟨_, rfl⟩
  obtain ⟨p0, hb⟩ := box1 w n X hX
  have HX := hideIt hX
  have c78 : X.cell? ⟨w.heap.size, 78, none⟩ = some (.int .u8 t) := by rw [p0.cell 78 (by decide), ht]; rfl
  have d1 : decide ((1 : Int) < t) = true := decide_eq_true (by omega)
  obtain ⟨i0, r0⟩ := p0.rules
  clear hX hT hv ht h
  go_enter Tryd.func8, Tryd.ntmps8
  go_wp2_with (rw [HX.out])
  refine (GD.out _).mono ?_
  rintro e Y ⟨rfl, h1⟩
  have hb := hb.trans (h1.mono hb.size)
  have hTE := HT0.out.below hb (Nat.le_refl _)
  clear h1 i0 r0 c78
  go_wp2_with fail
  refine (awakeD_any _ hTE).mono ?_
  rintro e w9 ⟨rfl, h1⟩
  have hb := hb.trans (h1.mono hb.size)
  clear h1 hTE
  go_wp2
  go_ret
  exact ⟨rfl, hb⟩


set_option maxRecDepth 100000 in
set_option maxHeartbeats 8000000 in
theorem dt_0 (n : Nat → Int) (hn : PosOk n) (a1 a2 : Int) (k v : Nat) (hv : n 0 = v) (ht : n 78 = 0) (hv9 : v ≤ 255) (hk : a1 % 5 = (k : Int)) (hk5 : k < 5) (x0 : 0 ≤ a1) (x1 : a1 ≤ 255) (y0 : 0 ≤ a2) (y1 : a2 ≤ 255) (w : World) (hT : Tab w) :
    Calls Tryd.prog 8 #[.agg (posA n), .int .u8 a1, .int .u8 a2] w fun e w' => e = .returned (.bool true) ∧ Below w.heap.size w w' := by
  have hk8 : kindAt (72 + (1 + k)) = .u8 := by
    have := kind_pock 1 (1 + k) (by decide) (by omega)
    rwa [show 66 + 6 * 1 + (1 + k) = 72 + (1 + k) by omega] at this
  obtain ⟨q, hq⟩ : ∃ q, upd n (72 + (1 + k)) a2 = q := ⟨_, rfl⟩
  have hqo : PosOk q := by rw [← hq]; exact hn.upd (by rw [hk8]; exact wf_u8_mk y0 y1)
  have hq0 : q 0 = v := by rw [← hq, ← hv]; exact if_neg (by omega)
  have hq78 : q 78 = 0 := by rw [← hq, ← ht]; exact if_neg (by omega)
  have hqL : dropL q v 0 = dropL n v 0 := by
    rw [← hq]
    exact dropL_same _ _ v 0 (fun j hj => if_neg (by omega)) (fun j hj => if_neg (by omega))
  have G1 : Hid (∀ W, Tab W → Calls Tryd.prog 10 #[.agg (posA n)] W fun e w' => ∃ x, e = .returned x ∧ OwnsM w' W.heap.size x (dropL n v 0) ∧ Below W.heap.size W w') := fun W hW => dl_any n hn v 0 hv ht hv9 W hW
  have G2 : Hid (∀ W, Tab W → Calls Tryd.prog 10 #[.agg (posA q)] W fun e w' => ∃ x, e = .returned x ∧ OwnsM w' W.heap.size x (dropL n v 0) ∧ Below W.heap.size W w') := fun W hW => by
    have := dl_any q hqo v 0 hq0 hq78 hv9 W hW
    rwa [hqL] at this
  have HOK := hideIt (dropL_ok n v 0)
  have hll := dropL_len n v 0
  generalize dropL n v 0 = L at G1 G2 HOK hll
  have HT0 := hideIt hT
  have HTT := hideIt ht
  obtain ⟨X, hX⟩ : ∃ X, w.alloc (.cells (posA n) 31) = X := ⟨_, rfl⟩
  obtain ⟨p0, hb⟩ := box1 w n X hX
  have c78 : X.cell? ⟨w.heap.size, 78, none⟩ = some (.int .u8 0) := by rw [p0.cell 78 (by decide), ht]; rfl
  obtain ⟨V, hV⟩ : ∃ V, (X.alloc (.cells (posA zeroN) 31)).setRow X.heap.size (posA n) = V := ⟨_, rfl⟩
  have hV2 : X.alloc (.cells (posA n) 31) = V := by rw [← hV, World.setRow_alloc_new]
  have pV : PosAt V w.heap.size n := by rw [← hV2]; exact p0.alloc _
  have qV : PosAt V X.heap.size n := by rw [← hV2]; exact PosAt.new X _
  have hbV : Below w.heap.size w V := by rw [← hV2]; exact hb.alloc hb.size _
  have hg1 := p0.lt
  obtain ⟨g, hg⟩ : ∃ g, X.heap.size = g := ⟨_, rfl⟩
  rw [hg] at qV hg1
  have n1 : ¬ g = w.heap.size := by omega
  have n2 : ¬ w.heap.size = g := by omega
  have hle : w.heap.size ≤ g := by omega
  obtain ⟨x, hx⟩ : ∃ x, n (72 + (1 + k)) = x := ⟨_, rfl⟩
  have cv : V.cell? ⟨g, 72 + (1 + k), none⟩ = some (.int .u8 x) := by rw [qV.cell (72 + (1 + k)) (by omega), hk8, hx]
  have fv := qV.free (72 + (1 + k))
  have c78v : V.cell? ⟨w.heap.size, 78, none⟩ = some (.int .u8 0) := by rw [pV.cell 78 (by decide), ht]; rfl
  obtain ⟨U, hU⟩ : ∃ U, V.setCell ⟨g, 72 + (1 + k), none⟩ (.int .u8 a2) = U := ⟨_, rfl⟩
  have pU : PosAt U w.heap.size n := by rw [← hU]; exact pV.other n1 _
  have qU : PosAt U g q := by rw [← hU, ← hq]; exact qV.setT (72 + (1 + k)) a2 (k := .u8) hk8.symm
  have hbU : Below w.heap.size w U := by rw [← hU]; exact Below.setCell (p := ⟨g, 72 + (1 + k), none⟩) hbV hle _
  have hTU := HT0.out.below hbU (Nat.le_refl _)
  have HX := hideIt hX
  have HV := hideIt hV
  have HG := hideIt hg
  have HU := hideIt hU
  have HK := hideIt hk
  have hzp := zeroPos
  obtain ⟨i0, r0⟩ := p0.rules
  have W0 : IntKind.u8.wrap 1 = 1 := by decide
  have W1 : IntKind.u8.wrap (1 + (k : Int)) = 1 + (k : Int) := IntWalk.u8_in _ (by omega)
  have l0 : (0 : Int) ≤ 1 + (k : Int) := by omega
  have l1 : 1 + (k : Int) < 6 := by omega
  have hk2 := HK.out
  clear hX hV hV2 hg hU hk hq hqo hq0 hq78 hqL hx hk8 hT hv ht pV qV hbV p0 hb
  go_enter Tryd.func8, Tryd.ntmps8
  go_wp2_with (first | rw [HX.out] | rw [HV.out, HG.out] | rw [HU.out])
  have HPU := hideIt pU
  have HQU := hideIt qU
  have HTU := hideIt hTU
  clear pU qU hTU i0 r0 cv fv c78 c78v HX HV HG HU
  refine wp_region_held_drew (S := (fun W => (IsPos W w.heap.size ∧ rowOf W w.heap.size = posA n) ∧ (IsPos W g ∧ rowOf W g = posA q) ∧ Tab W ∧ Below U.heap.size U W)) (by kernel_rfl) ?_ (fun hHeld => ?_)
  · (try dsimp only); (refine keepT2 HPU.out HQU.out HTU.out ?_; repeat (first | exact Below.refl _ _ | assumption | refine bl_drew ?_ | refine bl_then ?_ (by assumption)))
  refine wpAnyH_take (i := 0) (oi := { dst := some 32, op := Op.load 31 (Operand.tmp 3), type := 31, pos := "outright.go:79", after := #[], guard := none }) (v := ?_) rfl (by kernel_rfl) (by kernel_rfl) (by kernel_rfl) (fun _ _ _ h => h) (Or.inl ⟨by rfl, ?_⟩) (by assumption) ?_
  rotate_left
  · (intro w hSw; (try dsimp only at hSw); go_simp; try (with_reducible rfl))
  try simp only [Act.put, List.setIfInBounds_toArray, List.set_cons_zero, List.set_cons_succ]
  refine wpAnyH_take (i := 2) (oi := { dst := some 34, op := Op.load 31 (Operand.tmp 7), type := 31, pos := "outright.go:79", after := #[], guard := none }) (v := ?_) rfl (by kernel_rfl) (by kernel_rfl) (by kernel_rfl) (fun _ _ _ h => h) (Or.inl ⟨by rfl, ?_⟩) (by assumption) ?_
  rotate_left
  · (intro w hSw; (try dsimp only at hSw); go_simp; try (with_reducible rfl))
  try simp only [Act.put, List.setIfInBounds_toArray, List.set_cons_zero, List.set_cons_succ]
  refine wpAnyH_ready (rs := [1]) (by kernel_rfl) (by simp) ?_
  refine AllReadyH.cons (o := { dst := some 33, op := Op.call { callee := Callee.value (Operand.func 10), args := #[Operand.tmp 32], argTypes := #[31] }, type := 33, pos := "outright.go:79", after := #[{ on := 0, ground := Ground.data }], guard := none }) rfl (fun K hK => ?_) AllReadyH.nil
  go_simp
  refine (G1.out _ hHeld.2.2.1).mono ?_
  rintro e w5 ⟨v1, rfl, own1, h1⟩
  refine hK.out _ _ ?_ (fun hHeld => ?_)
  · (try dsimp only); (refine keepT2 HPU.out HQU.out HTU.out ?_; repeat (first | exact Below.refl _ _ | assumption | refine bl_drew ?_ | refine bl_then ?_ (by assumption)))
  clear hK K
  try simp only [Act.put, List.setIfInBounds_toArray, List.set_cons_zero, List.set_cons_succ]
  refine wpAnyH_ready (rs := [3]) (by kernel_rfl) (by simp) ?_
  refine AllReadyH.cons (o := { dst := some 35, op := Op.call { callee := Callee.value (Operand.func 10), args := #[Operand.tmp 34], argTypes := #[31] }, type := 33, pos := "outright.go:79", after := #[{ on := 2, ground := Ground.data }, { on := 1, ground := Ground.chain }], guard := none }) rfl (fun K hK => ?_) AllReadyH.nil
  go_simp
  refine (G2.out _ hHeld.2.2.1).mono ?_
  rintro e w6 ⟨v2, rfl, own2, h2⟩
  have own1 := own1.kept h2 (Nat.le_refl _)
  refine hK.out _ _ ?_ (fun hHeld => ?_)
  · (try dsimp only); (refine keepT2 HPU.out HQU.out HTU.out ?_; repeat (first | exact Below.refl _ _ | assumption | refine bl_drew ?_ | refine bl_then ?_ (by assumption)))
  clear hK K
  try simp only [Act.put, List.setIfInBounds_toArray, List.set_cons_zero, List.set_cons_succ]
  refine wpAnyH_take (i := 4) (oi := { dst := some 8, op := Op.assign (Operand.tmp 33), type := 33, pos := "outright.go:79", after := #[{ on := 1, ground := Ground.data }, { on := 3, ground := Ground.chain }, { on := 0, ground := Ground.phase }, { on := 1, ground := Ground.phase }, { on := 2, ground := Ground.textOnly Departure.lateStores }, { on := 3, ground := Ground.textOnly Departure.lateStoresUnsure }], guard := none }) (v := ?_) rfl (by kernel_rfl) (by kernel_rfl) (by kernel_rfl) (fun _ _ _ h => h) (Or.inl ⟨by rfl, ?_⟩) (by assumption) ?_
  rotate_left
  · (intro w hSw; (try dsimp only at hSw); go_simp; try (with_reducible rfl))
  try simp only [Act.put, List.setIfInBounds_toArray, List.set_cons_zero, List.set_cons_succ]
  refine wpAnyH_take (i := 5) (oi := { dst := some 9, op := Op.assign (Operand.tmp 35), type := 33, pos := "outright.go:79", after := #[{ on := 3, ground := Ground.data }, { on := 4, ground := Ground.chain }, { on := 0, ground := Ground.phase }, { on := 1, ground := Ground.phase }, { on := 2, ground := Ground.phase }, { on := 3, ground := Ground.phase }, { on := 4, ground := Ground.phase }], guard := none }) (v := ?_) rfl (by kernel_rfl) (by kernel_rfl) (by kernel_rfl) (fun _ _ _ h => h) (Or.inl ⟨by rfl, ?_⟩) (by assumption) ?_
  rotate_left
  · (intro w hSw; (try dsimp only at hSw); go_simp; try (with_reducible rfl))
  try simp only [Act.put, List.setIfInBounds_toArray, List.set_cons_zero, List.set_cons_succ]
  refine wpAnyH_done (by kernel_rfl) ?_ _
  have hq := hHeld.2.2.2
  have hbE := hbU.trans (hq.mono hbU.size)
  have hTE := HT0.out.below hbE (Nat.le_refl _)
  clear hHeld h1 h2 hq G1 G2
  rcases own1.form with ⟨hl, a3, c1, rfl⟩ | ⟨g1, c1, rfl, _, hs1, hne, hc1⟩
  · rcases own2.form with ⟨_, a4, c2, rfl⟩ | ⟨_, _, _, _, _, hne, _⟩
    · clear own1 own2 HOK hl hll
      go_wp2
      refine wp_loop_rounds 1 ?_
      rw [rounds_succ]
      go_wp2_with fail
      refine (awakeD_any _ hTE).mono ?_
      rintro e w9 ⟨rfl, h9⟩
      have hbE := hbE.trans (h9.mono hbE.size)
      clear h9 hTE
      go_wp2
      go_ret
      exact ⟨rfl, hbE⟩
    · exact absurd hl hne
  · rcases own2.form with ⟨hl, _⟩ | ⟨g2, c2, rfl, _, hs2, _, hc2⟩
    · exact absurd hl hne
    · have HC1 := hideIt hc1
      have HC2 := hideIt hc2
      clear hc1 hc2 own1 own2 hne
      obtain ⟨m, hm⟩ : ∃ m, L.length = m := ⟨_, rfl⟩
      have HN := hideIt hm
      rw [hm] at hll ⊢
      clear hm
      go_wp2
      go_loopw [10] (fun i wr => ∃ j : Nat, j ≤ m ∧ i = .int .i64 j ∧ Below w6.heap.size w6 wr) (fun i _ => m - (intOf i).toNat)
      case atStart => exact ⟨0, by omega, rfl, Below.refl _ _⟩
      case round =>
        obtain ⟨j, hj, rfl, hr⟩ := hrel
        by_cases hlt : j < m
        · have hkl : j < L.length := by rw [HN.out]; exact hlt
          obtain ⟨p0, p1, p2, p3, p4⟩ := HC1.out j hkl
          obtain ⟨q0, q1, q2, q3, q4⟩ := HC2.out j hkl
          have hm := HOK.out L[j] (List.getElem_mem hkl)
          generalize L[j] = mv at p0 p1 p2 p3 p4 q0 q1 q2 q3 q4 hm
          have p0 := (hr.cell (p := ⟨g1, j * 5, none⟩) hs1).trans p0
          have p1 := (hr.cell (p := ⟨g1, j * 5 + 1, none⟩) hs1).trans p1
          have p2 := (hr.cell (p := ⟨g1, j * 5 + 2, none⟩) hs1).trans p2
          have p3 := (hr.cell (p := ⟨g1, j * 5 + 3, none⟩) hs1).trans p3
          have p4 := (hr.cell (p := ⟨g1, j * 5 + 4, none⟩) hs1).trans p4
          have q0 := (hr.cell (p := ⟨g2, j * 5, none⟩) hs2).trans q0
          have q1 := (hr.cell (p := ⟨g2, j * 5 + 1, none⟩) hs2).trans q1
          have q2 := (hr.cell (p := ⟨g2, j * 5 + 2, none⟩) hs2).trans q2
          have q3 := (hr.cell (p := ⟨g2, j * 5 + 3, none⟩) hs2).trans q3
          have q4 := (hr.cell (p := ⟨g2, j * 5 + 4, none⟩) hs2).trans q4
          have ne := neq_same mv hm
          have i0 : (0 : Int) ≤ (j : Int) := by omega
          have i1 : (j : Int) < (m : Int) := by omega
          clear hm hkl hTE hk2 l0 l1 W0 W1
          go_wp2
          go_quiet (fail)
          go_wp2
          go_roundw
          case rel => exact ⟨j + 1, by omega, by go_num, hr.trans ((blN15 _ _).mono hr.size)⟩
          case measure => simp [intOf]; omega
        · obtain rfl : j = m := by omega
          have hbF := hbE.trans (hr.mono hbE.size)
          have hTF := HT0.out.below hbF (Nat.le_refl _)
          go_wp2_with fail
          refine (awakeD_any _ hTF).mono ?_
          rintro e w9 ⟨rfl, h9⟩
          have hbF := hbF.trans (h9.mono hbF.size)
          clear h9 hTF
          go_wp2
          go_ret
          exact ⟨rfl, hbF⟩


set_option maxRecDepth 100000 in
set_option maxHeartbeats 8000000 in
theorem dt_1 (n : Nat → Int) (hn : PosOk n) (a1 a2 : Int) (k v : Nat) (hv : n 0 = v) (ht : n 78 = 1) (hv9 : v ≤ 255) (hk : a1 % 5 = (k : Int)) (hk5 : k < 5) (x0 : 0 ≤ a1) (x1 : a1 ≤ 255) (y0 : 0 ≤ a2) (y1 : a2 ≤ 255) (w : World) (hT : Tab w) :
    Calls Tryd.prog 8 #[.agg (posA n), .int .u8 a1, .int .u8 a2] w fun e w' => e = .returned (.bool true) ∧ Below w.heap.size w w' := by
  have hk8 : kindAt (66 + (1 + k)) = .u8 := by
    have := kind_pock 0 (1 + k) (by decide) (by omega)
    rwa [show 66 + 6 * 0 + (1 + k) = 66 + (1 + k) by omega] at this
  obtain ⟨q, hq⟩ : ∃ q, upd n (66 + (1 + k)) a2 = q := ⟨_, rfl⟩
  have hqo : PosOk q := by rw [← hq]; exact hn.upd (by rw [hk8]; exact wf_u8_mk y0 y1)
  have hq0 : q 0 = v := by rw [← hq, ← hv]; exact if_neg (by omega)
  have hq78 : q 78 = 1 := by rw [← hq, ← ht]; exact if_neg (by omega)
  have hqL : dropL q v 1 = dropL n v 1 := by
    rw [← hq]
    exact dropL_same _ _ v 1 (fun j hj => if_neg (by omega)) (fun j hj => if_neg (by omega))
  have G1 : Hid (∀ W, Tab W → Calls Tryd.prog 10 #[.agg (posA n)] W fun e w' => ∃ x, e = .returned x ∧ OwnsM w' W.heap.size x (dropL n v 1) ∧ Below W.heap.size W w') := fun W hW => dl_any n hn v 1 hv ht hv9 W hW
  have G2 : Hid (∀ W, Tab W → Calls Tryd.prog 10 #[.agg (posA q)] W fun e w' => ∃ x, e = .returned x ∧ OwnsM w' W.heap.size x (dropL n v 1) ∧ Below W.heap.size W w') := fun W hW => by
    have := dl_any q hqo v 1 hq0 hq78 hv9 W hW
    rwa [hqL] at this
  have HOK := hideIt (dropL_ok n v 1)
  have hll := dropL_len n v 1
  generalize dropL n v 1 = L at G1 G2 HOK hll
  have HT0 := hideIt hT
  have HTT := hideIt ht
  obtain ⟨X, hX⟩ : ∃ X, w.alloc (.cells (posA n) 31) = X := ⟨_, rfl⟩
  obtain ⟨p0, hb⟩ := box1 w n X hX
  have c78 : X.cell? ⟨w.heap.size, 78, none⟩ = some (.int .u8 1) := by rw [p0.cell 78 (by decide), ht]; rfl
  obtain ⟨V, hV⟩ : ∃ V, (X.alloc (.cells (posA zeroN) 31)).setRow X.heap.size (posA n) = V := ⟨_, rfl⟩
  have hV2 : X.alloc (.cells (posA n) 31) = V := by rw [← hV, World.setRow_alloc_new]
  have pV : PosAt V w.heap.size n := by rw [← hV2]; exact p0.alloc _
  have qV : PosAt V X.heap.size n := by rw [← hV2]; exact PosAt.new X _
  have hbV : Below w.heap.size w V := by rw [← hV2]; exact hb.alloc hb.size _
  have hg1 := p0.lt
  obtain ⟨g, hg⟩ : ∃ g, X.heap.size = g := ⟨_, rfl⟩
  rw [hg] at qV hg1
  have n1 : ¬ g = w.heap.size := by omega
  have n2 : ¬ w.heap.size = g := by omega
  have hle : w.heap.size ≤ g := by omega
  obtain ⟨x, hx⟩ : ∃ x, n (66 + (1 + k)) = x := ⟨_, rfl⟩
  have cv : V.cell? ⟨g, 66 + (1 + k), none⟩ = some (.int .u8 x) := by rw [qV.cell (66 + (1 + k)) (by omega), hk8, hx]
  have fv := qV.free (66 + (1 + k))
  have c78v : V.cell? ⟨w.heap.size, 78, none⟩ = some (.int .u8 1) := by rw [pV.cell 78 (by decide), ht]; rfl
  obtain ⟨U, hU⟩ : ∃ U, V.setCell ⟨g, 66 + (1 + k), none⟩ (.int .u8 a2) = U := ⟨_, rfl⟩
  have pU : PosAt U w.heap.size n := by rw [← hU]; exact pV.other n1 _
  have qU : PosAt U g q := by rw [← hU, ← hq]; exact qV.setT (66 + (1 + k)) a2 (k := .u8) hk8.symm
  have hbU : Below w.heap.size w U := by rw [← hU]; exact Below.setCell (p := ⟨g, 66 + (1 + k), none⟩) hbV hle _
  have hTU := HT0.out.below hbU (Nat.le_refl _)
  have HX := hideIt hX
  have HV := hideIt hV
  have HG := hideIt hg
  have HU := hideIt hU
  have HK := hideIt hk
  have hzp := zeroPos
  obtain ⟨i0, r0⟩ := p0.rules
  have W0 : IntKind.u8.wrap 0 = 0 := by decide
  have W1 : IntKind.u8.wrap (1 + (k : Int)) = 1 + (k : Int) := IntWalk.u8_in _ (by omega)
  have l0 : (0 : Int) ≤ 1 + (k : Int) := by omega
  have l1 : 1 + (k : Int) < 6 := by omega
  have hk2 := HK.out
  clear hX hV hV2 hg hU hk hq hqo hq0 hq78 hqL hx hk8 hT hv ht pV qV hbV p0 hb
  go_enter Tryd.func8, Tryd.ntmps8
  go_wp2_with (first | rw [HX.out] | rw [HV.out, HG.out] | rw [HU.out])
  have HPU := hideIt pU
  have HQU := hideIt qU
  have HTU := hideIt hTU
  clear pU qU hTU i0 r0 cv fv c78 c78v HX HV HG HU
  refine wp_region_held_drew (S := (fun W => (IsPos W w.heap.size ∧ rowOf W w.heap.size = posA n) ∧ (IsPos W g ∧ rowOf W g = posA q) ∧ Tab W ∧ Below U.heap.size U W)) (by kernel_rfl) ?_ (fun hHeld => ?_)
  · (try dsimp only); (refine keepT2 HPU.out HQU.out HTU.out ?_; repeat (first | exact Below.refl _ _ | assumption | refine bl_drew ?_ | refine bl_then ?_ (by assumption)))
  refine wpAnyH_take (i := 0) (oi := { dst := some 32, op := Op.load 31 (Operand.tmp 3), type := 31, pos := "outright.go:79", after := #[], guard := none }) (v := ?_) rfl (by kernel_rfl) (by kernel_rfl) (by kernel_rfl) (fun _ _ _ h => h) (Or.inl ⟨by rfl, ?_⟩) (by assumption) ?_
  rotate_left
  · (intro w hSw; (try dsimp only at hSw); go_simp; try (with_reducible rfl))
  try simp only [Act.put, List.setIfInBounds_toArray, List.set_cons_zero, List.set_cons_succ]
  refine wpAnyH_take (i := 2) (oi := { dst := some 34, op := Op.load 31 (Operand.tmp 7), type := 31, pos := "outright.go:79", after := #[], guard := none }) (v := ?_) rfl (by kernel_rfl) (by kernel_rfl) (by kernel_rfl) (fun _ _ _ h => h) (Or.inl ⟨by rfl, ?_⟩) (by assumption) ?_
  rotate_left
  · (intro w hSw; (try dsimp only at hSw); go_simp; try (with_reducible rfl))
  try simp only [Act.put, List.setIfInBounds_toArray, List.set_cons_zero, List.set_cons_succ]
  refine wpAnyH_ready (rs := [1]) (by kernel_rfl) (by simp) ?_
  refine AllReadyH.cons (o := { dst := some 33, op := Op.call { callee := Callee.value (Operand.func 10), args := #[Operand.tmp 32], argTypes := #[31] }, type := 33, pos := "outright.go:79", after := #[{ on := 0, ground := Ground.data }], guard := none }) rfl (fun K hK => ?_) AllReadyH.nil
  go_simp
  refine (G1.out _ hHeld.2.2.1).mono ?_
  rintro e w5 ⟨v1, rfl, own1, h1⟩
  refine hK.out _ _ ?_ (fun hHeld => ?_)
  · (try dsimp only); (refine keepT2 HPU.out HQU.out HTU.out ?_; repeat (first | exact Below.refl _ _ | assumption | refine bl_drew ?_ | refine bl_then ?_ (by assumption)))
  clear hK K
  try simp only [Act.put, List.setIfInBounds_toArray, List.set_cons_zero, List.set_cons_succ]
  refine wpAnyH_ready (rs := [3]) (by kernel_rfl) (by simp) ?_
  refine AllReadyH.cons (o := { dst := some 35, op := Op.call { callee := Callee.value (Operand.func 10), args := #[Operand.tmp 34], argTypes := #[31] }, type := 33, pos := "outright.go:79", after := #[{ on := 2, ground := Ground.data }, { on := 1, ground := Ground.chain }], guard := none }) rfl (fun K hK => ?_) AllReadyH.nil
  go_simp
  refine (G2.out _ hHeld.2.2.1).mono ?_
  rintro e w6 ⟨v2, rfl, own2, h2⟩
  have own1 := own1.kept h2 (Nat.le_refl _)
  refine hK.out _ _ ?_ (fun hHeld => ?_)
  · (try dsimp only); (refine keepT2 HPU.out HQU.out HTU.out ?_; repeat (first | exact Below.refl _ _ | assumption | refine bl_drew ?_ | refine bl_then ?_ (by assumption)))
  clear hK K
  try simp only [Act.put, List.setIfInBounds_toArray, List.set_cons_zero, List.set_cons_succ]
  refine wpAnyH_take (i := 4) (oi := { dst := some 8, op := Op.assign (Operand.tmp 33), type := 33, pos := "outright.go:79", after := #[{ on := 1, ground := Ground.data }, { on := 3, ground := Ground.chain }, { on := 0, ground := Ground.phase }, { on := 1, ground := Ground.phase }, { on := 2, ground := Ground.textOnly Departure.lateStores }, { on := 3, ground := Ground.textOnly Departure.lateStoresUnsure }], guard := none }) (v := ?_) rfl (by kernel_rfl) (by kernel_rfl) (by kernel_rfl) (fun _ _ _ h => h) (Or.inl ⟨by rfl, ?_⟩) (by assumption) ?_
  rotate_left
  · (intro w hSw; (try dsimp only at hSw); go_simp; try (with_reducible rfl))
  try simp only [Act.put, List.setIfInBounds_toArray, List.set_cons_zero, List.set_cons_succ]
  refine wpAnyH_take (i := 5) (oi := { dst := some 9, op := Op.assign (Operand.tmp 35), type := 33, pos := "outright.go:79", after := #[{ on := 3, ground := Ground.data }, { on := 4, ground := Ground.chain }, { on := 0, ground := Ground.phase }, { on := 1, ground := Ground.phase }, { on := 2, ground := Ground.phase }, { on := 3, ground := Ground.phase }, { on := 4, ground := Ground.phase }], guard := none }) (v := ?_) rfl (by kernel_rfl) (by kernel_rfl) (by kernel_rfl) (fun _ _ _ h => h) (Or.inl ⟨by rfl, ?_⟩) (by assumption) ?_
  rotate_left
  · (intro w hSw; (try dsimp only at hSw); go_simp; try (with_reducible rfl))
  try simp only [Act.put, List.setIfInBounds_toArray, List.set_cons_zero, List.set_cons_succ]
  refine wpAnyH_done (by kernel_rfl) ?_ _
  have hq := hHeld.2.2.2
  have hbE := hbU.trans (hq.mono hbU.size)
  have hTE := HT0.out.below hbE (Nat.le_refl _)
  clear hHeld h1 h2 hq G1 G2
  rcases own1.form with ⟨hl, a3, c1, rfl⟩ | ⟨g1, c1, rfl, _, hs1, hne, hc1⟩
  · rcases own2.form with ⟨_, a4, c2, rfl⟩ | ⟨_, _, _, _, _, hne, _⟩
    · clear own1 own2 HOK hl hll
      go_wp2
      refine wp_loop_rounds 1 ?_
      rw [rounds_succ]
      go_wp2_with fail
      refine (awakeD_any _ hTE).mono ?_
      rintro e w9 ⟨rfl, h9⟩
      have hbE := hbE.trans (h9.mono hbE.size)
      clear h9 hTE
      go_wp2
      go_ret
      exact ⟨rfl, hbE⟩
    · exact absurd hl hne
  · rcases own2.form with ⟨hl, _⟩ | ⟨g2, c2, rfl, _, hs2, _, hc2⟩
    · exact absurd hl hne
    · have HC1 := hideIt hc1
      have HC2 := hideIt hc2
      clear hc1 hc2 own1 own2 hne
      obtain ⟨m, hm⟩ : ∃ m, L.length = m := ⟨_, rfl⟩
      have HN := hideIt hm
      rw [hm] at hll ⊢
      clear hm
      go_wp2
      go_loopw [10] (fun i wr => ∃ j : Nat, j ≤ m ∧ i = .int .i64 j ∧ Below w6.heap.size w6 wr) (fun i _ => m - (intOf i).toNat)
      case atStart => exact ⟨0, by omega, rfl, Below.refl _ _⟩
      case round =>
        obtain ⟨j, hj, rfl, hr⟩ := hrel
        by_cases hlt : j < m
        · have hkl : j < L.length := by rw [HN.out]; exact hlt
          obtain ⟨p0, p1, p2, p3, p4⟩ := HC1.out j hkl
          obtain ⟨q0, q1, q2, q3, q4⟩ := HC2.out j hkl
          have hm := HOK.out L[j] (List.getElem_mem hkl)
          generalize L[j] = mv at p0 p1 p2 p3 p4 q0 q1 q2 q3 q4 hm
          have p0 := (hr.cell (p := ⟨g1, j * 5, none⟩) hs1).trans p0
          have p1 := (hr.cell (p := ⟨g1, j * 5 + 1, none⟩) hs1).trans p1
          have p2 := (hr.cell (p := ⟨g1, j * 5 + 2, none⟩) hs1).trans p2
          have p3 := (hr.cell (p := ⟨g1, j * 5 + 3, none⟩) hs1).trans p3
          have p4 := (hr.cell (p := ⟨g1, j * 5 + 4, none⟩) hs1).trans p4
          have q0 := (hr.cell (p := ⟨g2, j * 5, none⟩) hs2).trans q0
          have q1 := (hr.cell (p := ⟨g2, j * 5 + 1, none⟩) hs2).trans q1
          have q2 := (hr.cell (p := ⟨g2, j * 5 + 2, none⟩) hs2).trans q2
          have q3 := (hr.cell (p := ⟨g2, j * 5 + 3, none⟩) hs2).trans q3
          have q4 := (hr.cell (p := ⟨g2, j * 5 + 4, none⟩) hs2).trans q4
          have ne := neq_same mv hm
          have i0 : (0 : Int) ≤ (j : Int) := by omega
          have i1 : (j : Int) < (m : Int) := by omega
          clear hm hkl hTE hk2 l0 l1 W0 W1
          go_wp2
          go_quiet (fail)
          go_wp2
          go_roundw
          case rel => exact ⟨j + 1, by omega, by go_num, hr.trans ((blN15 _ _).mono hr.size)⟩
          case measure => simp [intOf]; omega
        · obtain rfl : j = m := by omega
          have hbF := hbE.trans (hr.mono hbE.size)
          have hTF := HT0.out.below hbF (Nat.le_refl _)
          go_wp2_with fail
          refine (awakeD_any _ hTF).mono ?_
          rintro e w9 ⟨rfl, h9⟩
          have hbF := hbF.trans (h9.mono hbF.size)
          clear h9 hTF
          go_wp2
          go_ret
          exact ⟨rfl, hbF⟩


theorem dropTurn_walk (n : Nat → Int) (a1 a2 : Int) (w0 : PosOk n) (w1 : (Lit.int .u8 a1).wf = true) (w2 : (Lit.int .u8 a2).wf = true) (w : World) (hT : Tab w) :
    Calls Tryd.prog 8 #[.agg (posA n), .int .u8 a1, .int .u8 a2] w fun e w' => e = .returned (.bool true) ∧ Below w.heap.size w w' := by
  obtain ⟨x0, x1⟩ := wf_u8 w1
  obtain ⟨y0, y1⟩ := wf_u8 w2
  obtain ⟨z0, z1⟩ := w0.u8 0 (by decide) rfl
  obtain ⟨s0, s1⟩ := w0.u8 78 (by decide) rfl
  obtain ⟨v, hv⟩ : ∃ v : Nat, n 0 = v := ⟨(n 0).toNat, by omega⟩
  obtain ⟨t, ht⟩ : ∃ t : Nat, n 78 = t := ⟨(n 78).toNat, by omega⟩
  obtain ⟨k, hk⟩ : ∃ k : Nat, a1 % 5 = k := ⟨(a1 % 5).toNat, by omega⟩
  have hc : t = 0 ∨ t = 1 ∨ 1 < t := by omega
  rcases hc with rfl | rfl | h
  · exact dt_0 n w0 a1 a2 k v hv ht (by omega) hk (by omega) x0 x1 y0 y1 w hT
  · exact dt_1 n w0 a1 a2 k v hv ht (by omega) hk (by omega) x0 x1 y0 y1 w hT
  · exact dt_out n w0 a1 a2 v t hv ht (by omega) h w hT


end Go.Proofs.YtkkabacdiefabaaDoor
