/- The walk of DropEach (written by gen_deach.py). -/
import Derived.Test.YtkkabacdiefabaaDoorDB
import Derived.Test.YtkkabacdiefabaaDoorAwD
namespace Go.Proofs.YtkkabacdiefabaaDoor
open Go Go.RowKit
set_option linter.unusedVariables false

theorem PosAt.setX {w : World} {g : Nat} {n : Nat → Int} (h : PosAt w g n) (i : Nat) (x : Int) {k : IntKind} (hk : k = kindAt i) : PosAt (w.setCell ⟨g, i, none⟩ (.int k x)) g (upd n i x) := by
  subst hk; exact h.set i x
theorem blN16 (w : World) (k : Nat) : Below w.heap.size w (w.drewN k) := (Below.refl _ _).trans ⟨rfl, rfl, rfl, Nat.le_refl _, fun _ _ => rfl⟩


set_option maxRecDepth 100000 in
set_option maxHeartbeats 8000000 in
theorem de_0 (n : Nat → Int) (hn : PosOk n) (ht : n 78 % 2 = 0) (w : World) (hT : Tab w) :
    Calls Tryd.prog 6 #[.agg (posA n)] w fun e w' => e = .returned (.bool true) ∧ Below w.heap.size w w' := by
  obtain ⟨x78, y78⟩ := hn.u8 78 (by decide) rfl
  obtain ⟨m, hm⟩ : ∃ m, upd (upd n 0 2) 78 0 = m := ⟨_, rfl⟩
  have hmo : PosOk m := by rw [← hm]; exact (hn.upd (by rw [show kindAt 0 = IntKind.u8 from rfl]; exact wf_u8_mk (by decide) (by decide))).upd (by rw [show kindAt 78 = IntKind.u8 from rfl]; exact wf_u8_mk (by decide) (by decide))
  have hm0 : m 0 = 2 := by rw [← hm]; rfl
  have hm78 : m 78 = 0 := by rw [← hm]; rfl
  have HT0 := hideIt hT
  obtain ⟨X, hX⟩ : ∃ X, w.alloc (.cells (posA n) 31) = X := ⟨_, rfl⟩
  obtain ⟨p0, hb⟩ := box1 w n X hX
  have c0 : X.cell? ⟨w.heap.size, 0, none⟩ = some (.int .u8 (n 0)) := p0.board 0 (by decide)
  have c78 : X.cell? ⟨w.heap.size, 78, none⟩ = some (.int .u8 (n 78)) := p0.cell 78 (by decide)
  have f0 := p0.free 0
  have f78 := p0.free 78
  obtain ⟨Y, hY⟩ : ∃ Y, (X.setCell ⟨w.heap.size, 0, none⟩ (.int .u8 2)).setCell ⟨w.heap.size, 78, none⟩ (.int .u8 0) = Y := ⟨_, rfl⟩
  have pY : PosAt Y w.heap.size m := by rw [← hY, ← hm]; exact (p0.setX 0 2 (k := .u8) rfl).setX 78 0 (k := .u8) rfl
  have hbY : Below w.heap.size w Y := by rw [← hY]; exact Below.setCell (p := ⟨w.heap.size, 78, none⟩) (Below.setCell (p := ⟨w.heap.size, 0, none⟩) hb (Nat.le_refl _) _) (Nat.le_refl _) _
  have HTY := hideIt (HT0.out.below hbY (Nat.le_refl _))
  have HX := hideIt hX
  have HY := hideIt hY
  have HP := hideIt pY
  have HM0 := hideIt hm0
  have HM78 := hideIt hm78
  have HMO := hideIt hmo
  generalize hn78 : n 78 = y at c78 x78 y78 ht
  clear hX hY hT hm hm0 hm78 hmo pY p0 hb hn78
  go_enter Tryd.func6, Tryd.ntmps6
  go_wp2_with (first | rw [HX.out] | rw [HY.out])
  try rw [ht]
  try rw [HY.out]
  clear c0 c78 f0 f78 HX HY ht x78 y78
  go_loop [3, 4, 5] (fun e d s => ∃ j : Nat, j ≤ 64 ∧ s = .int .i64 j ∧ e = .int .i64 (empC m j : Nat) ∧ d = .int .i64 (midC m j : Nat) ∧ Hid (∀ s, s < j → m (1 + s) = 0 ∨ isB (m (1 + s)) = true)) (fun _ _ s => 64 - (intOf s).toNat)
  case atStart => exact ⟨0, by omega, rfl, rfl, rfl, fun s hs => absurd hs (Nat.not_lt_zero s)⟩
  case round =>
    obtain ⟨j, hj, rfl, rfl, rfl, hcl⟩ := hrel
    by_cases hlt : j < 64
    · have cb := HP.out.board (1 + j) (by omega)
      obtain ⟨x0, x1⟩ := HMO.out.u8 (1 + j) (by omega) (kind_board (by omega))
      have e0 := empC_le m j
      have e1 := midC_le m j
      have HE := hideIt (show empC m (j + 1) = empC m j + (if m (1 + j) = 0 then 1 else 0) from rfl)
      have HD := hideIt (show midC m (j + 1) = midC m j + (if m (1 + j) = 0 ∧ 8 ≤ j ∧ j < 56 then 1 else 0) from rfl)
      have HC : Hid (m (1 + j) = 0 ∨ isB (m (1 + j)) = true → ∀ s, s < j + 1 → m (1 + s) = 0 ∨ isB (m (1 + s)) = true) := fun h s hs => by
        by_cases h2 : s = j
        · subst h2; exact h
        · exact hcl.out s (by omega)
      clear hcl
      generalize empC m j = em at HE e0 ⊢
      generalize midC m j = md at HD e1 ⊢
      obtain ⟨x, hx⟩ : ∃ x, m (1 + j) = x := ⟨_, rfl⟩
      rw [hx] at cb x0 x1 HE HD HC
      clear hx
      by_cases hz : x = 0
      · have dz : (x != 0) = false := by rw [bne, beq_iff_eq.2 hz]; rfl
        have dz2 : (x == 0) = true := beq_iff_eq.2 hz
        have HE := hideIt (HE.out.trans (by rw [if_pos hz]))
        have HC := hideIt (HC.out (.inl hz))
        by_cases h8 : 8 ≤ j
        · by_cases h56 : j < 56
          · have d8 : decide ((8 : Int) ≤ j) = true := decide_eq_true (by omega)
            have d56 : decide ((j : Int) < 56) = true := decide_eq_true (by omega)
            have HD := hideIt (HD.out.trans (by rw [if_pos ⟨hz, h8, h56⟩]))
            clear hz h8 h56
            go_wp2
            go_round
            case rel => exact ⟨j + 1, by omega, by go_num, by rw [HE.out]; go_num, by rw [HD.out]; go_num, HC⟩
            case measure => simp [intOf]; omega
          · have d8 : decide ((8 : Int) ≤ j) = true := decide_eq_true (by omega)
            have d56 : decide ((j : Int) < 56) = false := decide_eq_false (by omega)
            have HD := hideIt (HD.out.trans (by rw [if_neg (fun h => h56 h.2.2), Nat.add_zero]))
            clear hz h8 h56
            go_wp2
            go_round
            case rel => exact ⟨j + 1, by omega, by go_num, by rw [HE.out]; go_num, by rw [HD.out], HC⟩
            case measure => simp [intOf]; omega
        · have d8 : decide ((8 : Int) ≤ j) = false := decide_eq_false (by omega)
          have HD := hideIt (HD.out.trans (by rw [if_neg (fun h => h8 h.2.1), Nat.add_zero]))
          clear hz h8
          go_wp2
          go_round
          case rel => exact ⟨j + 1, by omega, by go_num, by rw [HE.out]; go_num, by rw [HD.out], HC⟩
          case measure => simp [intOf]; omega
      · have dz : (x != 0) = true := by rw [bne, beq_eq_false_iff_ne.2 hz]; rfl
        have dz2 : (x == 0) = false := beq_eq_false_iff_ne.2 hz
        have HE := hideIt (HE.out.trans (by rw [if_neg hz, Nat.add_zero]))
        have HD := hideIt (HD.out.trans (by rw [if_neg (fun h => hz h.1), Nat.add_zero]))
        have hcs : 15 < x ∨ (x ≤ 15 ∧ x % 8 < 1) ∨ (x ≤ 15 ∧ ¬ x % 8 < 1 ∧ 6 < x % 8) ∨ (x ≤ 15 ∧ ¬ x % 8 < 1 ∧ ¬ 6 < x % 8) := by omega
        rcases hcs with h | ⟨h1, h2⟩ | ⟨h1, h2, h3⟩ | ⟨h1, h2, h3⟩
        · have d1 : decide (15 < x) = true := decide_eq_true h
          clear hz h
          go_wp2_with fail
          refine (awakeD_any _ HTY.out).mono ?_
          rintro e w9 ⟨rfl, h9⟩
          have hbE := hbY.trans (h9.mono hbY.size)
          clear h9
          go_wp2
          go_ret
          exact ⟨rfl, hbE⟩
        · have d1 : decide (15 < x) = false := decide_eq_false (by omega)
          have d2 : decide (x % 8 < 1) = true := decide_eq_true h2
          clear hz h1 h2
          go_wp2_with fail
          refine (awakeD_any _ HTY.out).mono ?_
          rintro e w9 ⟨rfl, h9⟩
          have hbE := hbY.trans (h9.mono hbY.size)
          clear h9
          go_wp2
          go_ret
          exact ⟨rfl, hbE⟩
        · have d1 : decide (15 < x) = false := decide_eq_false (by omega)
          have d2 : decide (x % 8 < 1) = false := decide_eq_false h2
          have d3 : decide (6 < x % 8) = true := decide_eq_true h3
          clear hz h1 h2 h3
          go_wp2_with fail
          refine (awakeD_any _ HTY.out).mono ?_
          rintro e w9 ⟨rfl, h9⟩
          have hbE := hbY.trans (h9.mono hbY.size)
          clear h9
          go_wp2
          go_ret
          exact ⟨rfl, hbE⟩
        · have d1 : decide (15 < x) = false := decide_eq_false (by omega)
          have d2 : decide (x % 8 < 1) = false := decide_eq_false h2
          have d3 : decide (6 < x % 8) = false := decide_eq_false h3
          have HC := hideIt (HC.out (.inr ((isB_iff x).2 (by omega))))
          clear hz h1 h2 h3
          go_wp2
          go_round
          case rel => exact ⟨j + 1, by omega, by go_num, by rw [HE.out], by rw [HD.out], HC⟩
          case measure => simp [intOf]; omega
    · obtain rfl : j = 64 := by omega
      have HCL : Hid (Clean m) := hcl.out
      have e0 := empC_le m 64
      have e1 := midC_le m 64
      clear hlt hcl
      have HWS := hideIt (fun k => show wantC m 0 (k + 1) = wantC m 0 k + (if m (67 + k) = 0 then 0 else if k = 0 then midC m 64 else empC m 64) from rfl)
      generalize empC m 64 = em at HWS e0 ⊢
      generalize midC m 64 = md at HWS e1 ⊢
      go_wp2
      go_loop [7, 8] (fun q s => ∃ k : Nat, k ≤ 5 ∧ s = .int .i64 ((k : Int) + 1) ∧ q = .int .i64 (wantC m 0 k : Nat)) (fun _ s => 6 - (intOf s).toNat)
      case atStart => exact ⟨0, by omega, rfl, rfl⟩
      case round =>
        obtain ⟨k, hk, rfl, rfl⟩ := hrel
        by_cases hlt : k < 5
        · have hk8 : kindAt (67 + k) = .u8 := by
            have := kind_pock 0 (k + 1) (by decide) (by omega)
            rwa [show 66 + 6 * 0 + (k + 1) = 67 + k by omega] at this
          have c78 : Y.cell? ⟨w.heap.size, 78, none⟩ = some (.int .u8 0) := by rw [HP.out.cell 78 (by decide), HM78.out]; rfl
          have ck : Y.cell? ⟨w.heap.size, 66 + (k + 1), none⟩ = some (.int .u8 (m (67 + k))) := by
            have := HP.out.cell (67 + k) (by omega)
            rw [show 66 + (k + 1) = 67 + k by omega]
            rwa [hk8] at this
          have HS := hideIt (HWS.out k)
          have hwl := wantC_le m 0 k
          generalize wantC m 0 k = wc at HS hwl ⊢
          obtain ⟨x, hx⟩ : ∃ x, m (67 + k) = x := ⟨_, rfl⟩
          rw [hx] at ck HS
          clear hx hk8
          by_cases hz : x = 0
          · have dz : (x == 0) = true := beq_iff_eq.2 hz
            have HS := hideIt (HS.out.trans (by rw [if_pos hz, Nat.add_zero]))
            clear hz
            go_wp2
            go_round
            case rel => exact ⟨k + 1, by omega, by go_num, by rw [HS.out]⟩
            case measure => simp [intOf]; omega
          · have dz : (x == 0) = false := beq_eq_false_iff_ne.2 hz
            by_cases hk0 : k = 0
            · have d1 : ((k : Int) + 1 == 1) = true := beq_iff_eq.2 (by omega)
              have HS := hideIt (HS.out.trans (by rw [if_neg hz, if_pos hk0]))
              clear hz hk0
              go_wp2
              go_round
              case rel => exact ⟨k + 1, by omega, by go_num, by rw [HS.out]; go_num⟩
              case measure => simp [intOf]; omega
            · have d1 : ((k : Int) + 1 == 1) = false := beq_eq_false_iff_ne.2 (by omega)
              have HS := hideIt (HS.out.trans (by rw [if_neg hz, if_neg hk0]))
              clear hz hk0
              go_wp2
              go_round
              case rel => exact ⟨k + 1, by omega, by go_num, by rw [HS.out]; go_num⟩
              case measure => simp [intOf]; omega
        · obtain rfl : k = 5 := by omega
          clear hlt
          obtain ⟨i0, r0⟩ := HP.out.rules
          have HLN := hideIt (want_len m HCL.out 0 5)
          have HMEM := hideIt (mem_drop m HCL.out 0 5 (Nat.le_refl 5))
          have HSRT := hideIt (drop_sorted m HCL.out 0 5 (Nat.le_refl 5))
          have hwl := wantC_le m 0 5
          generalize wantC m 0 5 = wc at HLN hwl ⊢
          go_wp2_with fail
          refine (droplist_0 m HMO.out HM0.out HM78.out _ HTY.out).mono ?_
          rintro e Z ⟨vl, rfl, own, h1⟩
          have HPZ := hideIt (HP.out.below h1 HP.out.lt)
          have hbZ := hbY.trans (h1.mono hbY.size)
          clear h1 i0 r0
          generalize dropK m 0 5 = L at HLN HMEM HSRT own
          rcases own.form with ⟨hl, a3, c1, rfl⟩ | ⟨g1, c1, rfl, _, hs1, hne, hc1⟩
          · have hw0 : wc = 0 := by rw [← HLN.out, hl]; rfl
            subst hw0
            have hTE := HT0.out.below hbZ (Nat.le_refl _)
            clear own hl HLN HMEM HSRT
            go_wp2
            refine wp_loop_rounds 1 ?_
            rw [rounds_succ]
            go_wp2_with fail
            refine (awakeD_any _ hTE).mono ?_
            rintro e w9 ⟨rfl, h9⟩
            have hbE := hbZ.trans (h9.mono hbZ.size)
            clear h9 hTE
            go_wp2
            go_ret
            exact ⟨rfl, hbE⟩
          · have HC1 := hideIt hc1
            rw [HLN.out]
            clear own hc1 hne
            go_wp2
            go_loopw [10] (fun i wr => ∃ j : Nat, j ≤ wc ∧ i = .int .i64 j ∧ Below Z.heap.size Z wr) (fun i _ => wc - (intOf i).toNat)
            case atStart => exact ⟨0, by omega, rfl, Below.refl _ _⟩
            case round =>
              obtain ⟨j, hj, rfl, hr⟩ := hrel
              by_cases hlt : j < wc
              · have hkl : j < L.length := by rw [HLN.out]; exact hlt
                obtain ⟨p0, p1, p2, p3, p4⟩ := HC1.out j hkl
                obtain ⟨s, d, hsd, hs64, hd1, hd5, hpk, hbd⟩ := HMEM.out L[j] (List.getElem_mem hkl)
                rw [hsd] at p0 p1 p2 p3 p4
                have p0 : wr.cell? ⟨g1, j * 5, none⟩ = some (.int .i8 s) := (hr.cell (p := ⟨g1, j * 5, none⟩) hs1).trans p0
                have p1 : wr.cell? ⟨g1, j * 5 + 1, none⟩ = some (.int .i8 s) := (hr.cell (p := ⟨g1, j * 5 + 1, none⟩) hs1).trans p1
                have p2 : wr.cell? ⟨g1, j * 5 + 2, none⟩ = some (.int .u8 0) := (hr.cell (p := ⟨g1, j * 5 + 2, none⟩) hs1).trans p2
                have p3 : wr.cell? ⟨g1, j * 5 + 3, none⟩ = some (.int .u8 d) := (hr.cell (p := ⟨g1, j * 5 + 3, none⟩) hs1).trans p3
                have p4 : wr.cell? ⟨g1, j * 5 + 4, none⟩ = some (.bool false) := (hr.cell (p := ⟨g1, j * 5 + 4, none⟩) hs1).trans p4
                have HSD := hideIt hsd
                have HPK := hideIt hpk
                have HBD := hideIt hbd
                clear hsd hpk hbd
                obtain ⟨R, hR⟩ : ∃ R, wr.alloc (.cells #[.int .i8 (s : Int), .int .i8 (s : Int), .int .u8 0, .int .u8 (d : Int), .bool false] 45) = R := ⟨_, rfl⟩
                have b0 : R.cell? ⟨wr.heap.size, 0, none⟩ = some (.int .i8 s) := by rw [← hR, World.cell?_alloc_new]; rfl
                have b1 : R.cell? ⟨wr.heap.size, 1, none⟩ = some (.int .i8 s) := by rw [← hR, World.cell?_alloc_new]; rfl
                have b2 : R.cell? ⟨wr.heap.size, 2, none⟩ = some (.int .u8 0) := by rw [← hR, World.cell?_alloc_new]; rfl
                have b3 : R.cell? ⟨wr.heap.size, 3, none⟩ = some (.int .u8 d) := by rw [← hR, World.cell?_alloc_new]; rfl
                have b4 : R.cell? ⟨wr.heap.size, 4, none⟩ = some (.bool false) := by rw [← hR, World.cell?_alloc_new]; rfl
                have hrR : Below Z.heap.size Z R := by rw [← hR]; exact hr.alloc hr.size _
                have pR := HPZ.out.below hrR HPZ.out.lt
                have c78 : R.cell? ⟨w.heap.size, 78, none⟩ = some (.int .u8 0) := by rw [pR.cell 78 (by decide), HM78.out]; rfl
                have hk8 := kind_pock 0 d (by decide) (by omega)
                have ck : R.cell? ⟨w.heap.size, 66 + d, none⟩ = some (.int .u8 (m (66 + d))) := by
                  have := pR.cell (66 + d) (by omega)
                  rwa [show kindAt (66 + d) = .u8 from by have := hk8; rwa [show 66 + 6 * 0 + d = 66 + d by omega] at this] at this
                have cb : R.cell? ⟨w.heap.size, 1 + s, none⟩ = some (.int .u8 0) := by rw [pR.board (1 + s) (by omega), HBD.out]
                have HPK2 := hideIt (show m (66 + d) ≠ 0 by have := HPK.out; rwa [show 66 + 6 * 0 + d = 66 + d by omega] at this)
                have HR := hideIt hR
                have HRR := hideIt hrR
                generalize m (66 + d) = pk at ck HPK2
                have dpk : (pk == 0) = false := beq_eq_false_iff_ne.2 HPK2.out
                have dd1 : decide ((d : Int) < 1) = false := decide_eq_false (by omega)
                have dd5 : decide ((5 : Int) < d) = false := decide_eq_false (by omega)
                have l0 : (0 : Int) ≤ (d : Int) := by omega
                have l1 : (d : Int) < 6 := by omega
                have l2 : (0 : Int) ≤ (s : Int) := by omega
                have l3 : (s : Int) < 64 := by omega
                clear hR hrR hk8 pR
                go_wp2_with fail
                rw [HR.out]
                clear p0 p1 p2 p3 p4
                go_quiet (fail)
                clear ck cb c78 dpk
                by_cases hj0 : j = 0
                · have dj : decide ((0 : Int) < j) = false := decide_eq_false (by omega)
                  have dj2 : decide (0 < j) = false := decide_eq_false (by omega)
                  go_wp2
                  go_quiet (fail)
                  go_wp2
                  go_roundw
                  case rel => exact ⟨j + 1, by omega, by go_num, by first | exact HRR.out.trans ((blN16 _ _).mono HRR.out.size) | exact HRR.out.trans (((blN16 _ _).trans ((blN16 _ _).mono (Nat.le_refl _))).mono HRR.out.size)⟩
                  case measure => simp [intOf]; omega
                · obtain ⟨i, rfl⟩ : ∃ i, j = i + 1 := ⟨j - 1, by omega⟩
                  have hil : i < L.length := by rw [HLN.out]; omega
                  obtain ⟨s2, d2, hsd2, hs64', hd1', hd5', hq1, hq2⟩ := HMEM.out L[i] (List.getElem_mem hil)
                  have hlt2 := (List.pairwise_iff_getElem.1 HSRT.out) i (i + 1) hil hkl (by omega)
                  rw [hsd2, HSD.out] at hlt2
                  obtain ⟨_, p1, hq3, p3, hq4⟩ := HC1.out i hil
                  rw [hsd2] at p1 p3
                  have q1 : R.cell? ⟨g1, i * 5 + 1, none⟩ = some (.int .i8 s2) := (HRR.out.cell (p := ⟨g1, i * 5 + 1, none⟩) hs1).trans p1
                  have q3 : R.cell? ⟨g1, i * 5 + 3, none⟩ = some (.int .u8 d2) := (HRR.out.cell (p := ⟨g1, i * 5 + 3, none⟩) hs1).trans p3
                  have hor : d2 < d ∨ (d2 = d ∧ s2 < s) := by
                    rcases hlt2 with h | ⟨h1, h2⟩
                    · left
                      have : (d2 : Int) < (d : Int) := h
                      omega
                    · right
                      have h1 : (d2 : Int) = (d : Int) := h1
                      have h2 : (s2 : Int) < (s : Int) := h2
                      omega
                  have dj : decide ((0 : Int) < ((i + 1 : Nat) : Int)) = true := decide_eq_true (by omega)
                  have dj2 : decide (0 < i + 1) = true := decide_eq_true (by omega)
                  have dj3 : decide ((0 : Int) < (i : Int) + 1) = true := decide_eq_true (by omega)
                  have dg : decide ((d : Int) < d2) = false := decide_eq_false (by omega)
                  have dg2 : decide (d < d2) = false := decide_eq_false (by omega)
                  have k0 : (0 : Int) ≤ (i : Int) := by omega
                  have k1 : (i : Int) < (wc : Int) := by omega
                  have k2 : i < wc := by omega
                  clear HSD hq1 hq2 hq3 hq4 p1 p3 hsd2 hlt2 hkl hj0
                  rcases hor with h | ⟨h, h3⟩
                  · have de : ((d2 : Int) == (d : Int)) = false := beq_eq_false_iff_ne.2 (by omega)
                    have de2 : (d2 == d) = false := beq_eq_false_iff_ne.2 (by omega)
                    clear h
                    go_wp2
                    go_quiet (fail)
                    go_wp2
                    go_roundw
                    case rel => exact ⟨i + 1 + 1, by omega, by go_num, by first | exact HRR.out.trans ((blN16 _ _).mono HRR.out.size) | exact HRR.out.trans (((blN16 _ _).trans ((blN16 _ _).mono (Nat.le_refl _))).mono HRR.out.size)⟩
                    case measure => simp [intOf]; omega
                  · have de : ((d2 : Int) == (d : Int)) = true := beq_iff_eq.2 (by omega)
                    have de2 : (d2 == d) = true := beq_iff_eq.2 h
                    have ds : decide ((s : Int) ≤ s2) = false := decide_eq_false (by omega)
                    have ds2 : decide (s ≤ s2) = false := decide_eq_false (by omega)
                    clear h h3
                    go_wp2
                    go_quiet (fail)
                    go_wp2
                    go_roundw
                    case rel => exact ⟨i + 1 + 1, by omega, by go_num, by first | exact HRR.out.trans ((blN16 _ _).mono HRR.out.size) | exact HRR.out.trans (((blN16 _ _).trans ((blN16 _ _).mono (Nat.le_refl _))).mono HRR.out.size)⟩
                    case measure => simp [intOf]; omega
              · obtain rfl : j = wc := by omega
                have hbF := hbZ.trans (hr.mono hbZ.size)
                have hTF := HT0.out.below hbF (Nat.le_refl _)
                go_wp2_with fail
                refine (awakeD_any _ hTF).mono ?_
                rintro e w9 ⟨rfl, h9⟩
                have hbF := hbF.trans (h9.mono hbF.size)
                clear h9 hTF
                go_wp2
                go_ret
                exact ⟨rfl, hbF⟩


set_option maxRecDepth 100000 in
set_option maxHeartbeats 8000000 in
theorem de_1 (n : Nat → Int) (hn : PosOk n) (ht : n 78 % 2 = 1) (w : World) (hT : Tab w) :
    Calls Tryd.prog 6 #[.agg (posA n)] w fun e w' => e = .returned (.bool true) ∧ Below w.heap.size w w' := by
  obtain ⟨x78, y78⟩ := hn.u8 78 (by decide) rfl
  obtain ⟨m, hm⟩ : ∃ m, upd (upd n 0 2) 78 1 = m := ⟨_, rfl⟩
  have hmo : PosOk m := by rw [← hm]; exact (hn.upd (by rw [show kindAt 0 = IntKind.u8 from rfl]; exact wf_u8_mk (by decide) (by decide))).upd (by rw [show kindAt 78 = IntKind.u8 from rfl]; exact wf_u8_mk (by decide) (by decide))
  have hm0 : m 0 = 2 := by rw [← hm]; rfl
  have hm78 : m 78 = 1 := by rw [← hm]; rfl
  have HT0 := hideIt hT
  obtain ⟨X, hX⟩ : ∃ X, w.alloc (.cells (posA n) 31) = X := ⟨_, rfl⟩
  obtain ⟨p0, hb⟩ := box1 w n X hX
  have c0 : X.cell? ⟨w.heap.size, 0, none⟩ = some (.int .u8 (n 0)) := p0.board 0 (by decide)
  have c78 : X.cell? ⟨w.heap.size, 78, none⟩ = some (.int .u8 (n 78)) := p0.cell 78 (by decide)
  have f0 := p0.free 0
  have f78 := p0.free 78
  obtain ⟨Y, hY⟩ : ∃ Y, (X.setCell ⟨w.heap.size, 0, none⟩ (.int .u8 2)).setCell ⟨w.heap.size, 78, none⟩ (.int .u8 1) = Y := ⟨_, rfl⟩
  have pY : PosAt Y w.heap.size m := by rw [← hY, ← hm]; exact (p0.setX 0 2 (k := .u8) rfl).setX 78 1 (k := .u8) rfl
  have hbY : Below w.heap.size w Y := by rw [← hY]; exact Below.setCell (p := ⟨w.heap.size, 78, none⟩) (Below.setCell (p := ⟨w.heap.size, 0, none⟩) hb (Nat.le_refl _) _) (Nat.le_refl _) _
  have HTY := hideIt (HT0.out.below hbY (Nat.le_refl _))
  have HX := hideIt hX
  have HY := hideIt hY
  have HP := hideIt pY
  have HM0 := hideIt hm0
  have HM78 := hideIt hm78
  have HMO := hideIt hmo
  generalize hn78 : n 78 = y at c78 x78 y78 ht
  clear hX hY hT hm hm0 hm78 hmo pY p0 hb hn78
  go_enter Tryd.func6, Tryd.ntmps6
  go_wp2_with (first | rw [HX.out] | rw [HY.out])
  try rw [ht]
  try rw [HY.out]
  clear c0 c78 f0 f78 HX HY ht x78 y78
  go_loop [3, 4, 5] (fun e d s => ∃ j : Nat, j ≤ 64 ∧ s = .int .i64 j ∧ e = .int .i64 (empC m j : Nat) ∧ d = .int .i64 (midC m j : Nat) ∧ Hid (∀ s, s < j → m (1 + s) = 0 ∨ isB (m (1 + s)) = true)) (fun _ _ s => 64 - (intOf s).toNat)
  case atStart => exact ⟨0, by omega, rfl, rfl, rfl, fun s hs => absurd hs (Nat.not_lt_zero s)⟩
  case round =>
    obtain ⟨j, hj, rfl, rfl, rfl, hcl⟩ := hrel
    by_cases hlt : j < 64
    · have cb := HP.out.board (1 + j) (by omega)
      obtain ⟨x0, x1⟩ := HMO.out.u8 (1 + j) (by omega) (kind_board (by omega))
      have e0 := empC_le m j
      have e1 := midC_le m j
      have HE := hideIt (show empC m (j + 1) = empC m j + (if m (1 + j) = 0 then 1 else 0) from rfl)
      have HD := hideIt (show midC m (j + 1) = midC m j + (if m (1 + j) = 0 ∧ 8 ≤ j ∧ j < 56 then 1 else 0) from rfl)
      have HC : Hid (m (1 + j) = 0 ∨ isB (m (1 + j)) = true → ∀ s, s < j + 1 → m (1 + s) = 0 ∨ isB (m (1 + s)) = true) := fun h s hs => by
        by_cases h2 : s = j
        · subst h2; exact h
        · exact hcl.out s (by omega)
      clear hcl
      generalize empC m j = em at HE e0 ⊢
      generalize midC m j = md at HD e1 ⊢
      obtain ⟨x, hx⟩ : ∃ x, m (1 + j) = x := ⟨_, rfl⟩
      rw [hx] at cb x0 x1 HE HD HC
      clear hx
      by_cases hz : x = 0
      · have dz : (x != 0) = false := by rw [bne, beq_iff_eq.2 hz]; rfl
        have dz2 : (x == 0) = true := beq_iff_eq.2 hz
        have HE := hideIt (HE.out.trans (by rw [if_pos hz]))
        have HC := hideIt (HC.out (.inl hz))
        by_cases h8 : 8 ≤ j
        · by_cases h56 : j < 56
          · have d8 : decide ((8 : Int) ≤ j) = true := decide_eq_true (by omega)
            have d56 : decide ((j : Int) < 56) = true := decide_eq_true (by omega)
            have HD := hideIt (HD.out.trans (by rw [if_pos ⟨hz, h8, h56⟩]))
            clear hz h8 h56
            go_wp2
            go_round
            case rel => exact ⟨j + 1, by omega, by go_num, by rw [HE.out]; go_num, by rw [HD.out]; go_num, HC⟩
            case measure => simp [intOf]; omega
          · have d8 : decide ((8 : Int) ≤ j) = true := decide_eq_true (by omega)
            have d56 : decide ((j : Int) < 56) = false := decide_eq_false (by omega)
            have HD := hideIt (HD.out.trans (by rw [if_neg (fun h => h56 h.2.2), Nat.add_zero]))
            clear hz h8 h56
            go_wp2
            go_round
            case rel => exact ⟨j + 1, by omega, by go_num, by rw [HE.out]; go_num, by rw [HD.out], HC⟩
            case measure => simp [intOf]; omega
        · have d8 : decide ((8 : Int) ≤ j) = false := decide_eq_false (by omega)
          have HD := hideIt (HD.out.trans (by rw [if_neg (fun h => h8 h.2.1), Nat.add_zero]))
          clear hz h8
          go_wp2
          go_round
          case rel => exact ⟨j + 1, by omega, by go_num, by rw [HE.out]; go_num, by rw [HD.out], HC⟩
          case measure => simp [intOf]; omega
      · have dz : (x != 0) = true := by rw [bne, beq_eq_false_iff_ne.2 hz]; rfl
        have dz2 : (x == 0) = false := beq_eq_false_iff_ne.2 hz
        have HE := hideIt (HE.out.trans (by rw [if_neg hz, Nat.add_zero]))
        have HD := hideIt (HD.out.trans (by rw [if_neg (fun h => hz h.1), Nat.add_zero]))
        have hcs : 15 < x ∨ (x ≤ 15 ∧ x % 8 < 1) ∨ (x ≤ 15 ∧ ¬ x % 8 < 1 ∧ 6 < x % 8) ∨ (x ≤ 15 ∧ ¬ x % 8 < 1 ∧ ¬ 6 < x % 8) := by omega
        rcases hcs with h | ⟨h1, h2⟩ | ⟨h1, h2, h3⟩ | ⟨h1, h2, h3⟩
        · have d1 : decide (15 < x) = true := decide_eq_true h
          clear hz h
          go_wp2_with fail
          refine (awakeD_any _ HTY.out).mono ?_
          rintro e w9 ⟨rfl, h9⟩
          have hbE := hbY.trans (h9.mono hbY.size)
          clear h9
          go_wp2
          go_ret
          exact ⟨rfl, hbE⟩
        · have d1 : decide (15 < x) = false := decide_eq_false (by omega)
          have d2 : decide (x % 8 < 1) = true := decide_eq_true h2
          clear hz h1 h2
          go_wp2_with fail
          refine (awakeD_any _ HTY.out).mono ?_
          rintro e w9 ⟨rfl, h9⟩
          have hbE := hbY.trans (h9.mono hbY.size)
          clear h9
          go_wp2
          go_ret
          exact ⟨rfl, hbE⟩
        · have d1 : decide (15 < x) = false := decide_eq_false (by omega)
          have d2 : decide (x % 8 < 1) = false := decide_eq_false h2
          have d3 : decide (6 < x % 8) = true := decide_eq_true h3
          clear hz h1 h2 h3
          go_wp2_with fail
          refine (awakeD_any _ HTY.out).mono ?_
          rintro e w9 ⟨rfl, h9⟩
          have hbE := hbY.trans (h9.mono hbY.size)
          clear h9
          go_wp2
          go_ret
          exact ⟨rfl, hbE⟩
        · have d1 : decide (15 < x) = false := decide_eq_false (by omega)
          have d2 : decide (x % 8 < 1) = false := decide_eq_false h2
          have d3 : decide (6 < x % 8) = false := decide_eq_false h3
          have HC := hideIt (HC.out (.inr ((isB_iff x).2 (by omega))))
          clear hz h1 h2 h3
          go_wp2
          go_round
          case rel => exact ⟨j + 1, by omega, by go_num, by rw [HE.out], by rw [HD.out], HC⟩
          case measure => simp [intOf]; omega
    · obtain rfl : j = 64 := by omega
      have HCL : Hid (Clean m) := hcl.out
      have e0 := empC_le m 64
      have e1 := midC_le m 64
      clear hlt hcl
      have HWS := hideIt (fun k => show wantC m 1 (k + 1) = wantC m 1 k + (if m (73 + k) = 0 then 0 else if k = 0 then midC m 64 else empC m 64) from rfl)
      generalize empC m 64 = em at HWS e0 ⊢
      generalize midC m 64 = md at HWS e1 ⊢
      go_wp2
      go_loop [7, 8] (fun q s => ∃ k : Nat, k ≤ 5 ∧ s = .int .i64 ((k : Int) + 1) ∧ q = .int .i64 (wantC m 1 k : Nat)) (fun _ s => 6 - (intOf s).toNat)
      case atStart => exact ⟨0, by omega, rfl, rfl⟩
      case round =>
        obtain ⟨k, hk, rfl, rfl⟩ := hrel
        by_cases hlt : k < 5
        · have hk8 : kindAt (73 + k) = .u8 := by
            have := kind_pock 1 (k + 1) (by decide) (by omega)
            rwa [show 66 + 6 * 1 + (k + 1) = 73 + k by omega] at this
          have c78 : Y.cell? ⟨w.heap.size, 78, none⟩ = some (.int .u8 1) := by rw [HP.out.cell 78 (by decide), HM78.out]; rfl
          have ck : Y.cell? ⟨w.heap.size, 72 + (k + 1), none⟩ = some (.int .u8 (m (73 + k))) := by
            have := HP.out.cell (73 + k) (by omega)
            rw [show 72 + (k + 1) = 73 + k by omega]
            rwa [hk8] at this
          have HS := hideIt (HWS.out k)
          have hwl := wantC_le m 1 k
          generalize wantC m 1 k = wc at HS hwl ⊢
          obtain ⟨x, hx⟩ : ∃ x, m (73 + k) = x := ⟨_, rfl⟩
          rw [hx] at ck HS
          clear hx hk8
          by_cases hz : x = 0
          · have dz : (x == 0) = true := beq_iff_eq.2 hz
            have HS := hideIt (HS.out.trans (by rw [if_pos hz, Nat.add_zero]))
            clear hz
            go_wp2
            go_round
            case rel => exact ⟨k + 1, by omega, by go_num, by rw [HS.out]⟩
            case measure => simp [intOf]; omega
          · have dz : (x == 0) = false := beq_eq_false_iff_ne.2 hz
            by_cases hk0 : k = 0
            · have d1 : ((k : Int) + 1 == 1) = true := beq_iff_eq.2 (by omega)
              have HS := hideIt (HS.out.trans (by rw [if_neg hz, if_pos hk0]))
              clear hz hk0
              go_wp2
              go_round
              case rel => exact ⟨k + 1, by omega, by go_num, by rw [HS.out]; go_num⟩
              case measure => simp [intOf]; omega
            · have d1 : ((k : Int) + 1 == 1) = false := beq_eq_false_iff_ne.2 (by omega)
              have HS := hideIt (HS.out.trans (by rw [if_neg hz, if_neg hk0]))
              clear hz hk0
              go_wp2
              go_round
              case rel => exact ⟨k + 1, by omega, by go_num, by rw [HS.out]; go_num⟩
              case measure => simp [intOf]; omega
        · obtain rfl : k = 5 := by omega
          clear hlt
          obtain ⟨i0, r0⟩ := HP.out.rules
          have HLN := hideIt (want_len m HCL.out 1 5)
          have HMEM := hideIt (mem_drop m HCL.out 1 5 (Nat.le_refl 5))
          have HSRT := hideIt (drop_sorted m HCL.out 1 5 (Nat.le_refl 5))
          have hwl := wantC_le m 1 5
          generalize wantC m 1 5 = wc at HLN hwl ⊢
          go_wp2_with fail
          refine (droplist_1 m HMO.out HM0.out HM78.out _ HTY.out).mono ?_
          rintro e Z ⟨vl, rfl, own, h1⟩
          have HPZ := hideIt (HP.out.below h1 HP.out.lt)
          have hbZ := hbY.trans (h1.mono hbY.size)
          clear h1 i0 r0
          generalize dropK m 1 5 = L at HLN HMEM HSRT own
          rcases own.form with ⟨hl, a3, c1, rfl⟩ | ⟨g1, c1, rfl, _, hs1, hne, hc1⟩
          · have hw0 : wc = 0 := by rw [← HLN.out, hl]; rfl
            subst hw0
            have hTE := HT0.out.below hbZ (Nat.le_refl _)
            clear own hl HLN HMEM HSRT
            go_wp2
            refine wp_loop_rounds 1 ?_
            rw [rounds_succ]
            go_wp2_with fail
            refine (awakeD_any _ hTE).mono ?_
            rintro e w9 ⟨rfl, h9⟩
            have hbE := hbZ.trans (h9.mono hbZ.size)
            clear h9 hTE
            go_wp2
            go_ret
            exact ⟨rfl, hbE⟩
          · have HC1 := hideIt hc1
            rw [HLN.out]
            clear own hc1 hne
            go_wp2
            go_loopw [10] (fun i wr => ∃ j : Nat, j ≤ wc ∧ i = .int .i64 j ∧ Below Z.heap.size Z wr) (fun i _ => wc - (intOf i).toNat)
            case atStart => exact ⟨0, by omega, rfl, Below.refl _ _⟩
            case round =>
              obtain ⟨j, hj, rfl, hr⟩ := hrel
              by_cases hlt : j < wc
              · have hkl : j < L.length := by rw [HLN.out]; exact hlt
                obtain ⟨p0, p1, p2, p3, p4⟩ := HC1.out j hkl
                obtain ⟨s, d, hsd, hs64, hd1, hd5, hpk, hbd⟩ := HMEM.out L[j] (List.getElem_mem hkl)
                rw [hsd] at p0 p1 p2 p3 p4
                have p0 : wr.cell? ⟨g1, j * 5, none⟩ = some (.int .i8 s) := (hr.cell (p := ⟨g1, j * 5, none⟩) hs1).trans p0
                have p1 : wr.cell? ⟨g1, j * 5 + 1, none⟩ = some (.int .i8 s) := (hr.cell (p := ⟨g1, j * 5 + 1, none⟩) hs1).trans p1
                have p2 : wr.cell? ⟨g1, j * 5 + 2, none⟩ = some (.int .u8 0) := (hr.cell (p := ⟨g1, j * 5 + 2, none⟩) hs1).trans p2
                have p3 : wr.cell? ⟨g1, j * 5 + 3, none⟩ = some (.int .u8 d) := (hr.cell (p := ⟨g1, j * 5 + 3, none⟩) hs1).trans p3
                have p4 : wr.cell? ⟨g1, j * 5 + 4, none⟩ = some (.bool false) := (hr.cell (p := ⟨g1, j * 5 + 4, none⟩) hs1).trans p4
                have HSD := hideIt hsd
                have HPK := hideIt hpk
                have HBD := hideIt hbd
                clear hsd hpk hbd
                obtain ⟨R, hR⟩ : ∃ R, wr.alloc (.cells #[.int .i8 (s : Int), .int .i8 (s : Int), .int .u8 0, .int .u8 (d : Int), .bool false] 45) = R := ⟨_, rfl⟩
                have b0 : R.cell? ⟨wr.heap.size, 0, none⟩ = some (.int .i8 s) := by rw [← hR, World.cell?_alloc_new]; rfl
                have b1 : R.cell? ⟨wr.heap.size, 1, none⟩ = some (.int .i8 s) := by rw [← hR, World.cell?_alloc_new]; rfl
                have b2 : R.cell? ⟨wr.heap.size, 2, none⟩ = some (.int .u8 0) := by rw [← hR, World.cell?_alloc_new]; rfl
                have b3 : R.cell? ⟨wr.heap.size, 3, none⟩ = some (.int .u8 d) := by rw [← hR, World.cell?_alloc_new]; rfl
                have b4 : R.cell? ⟨wr.heap.size, 4, none⟩ = some (.bool false) := by rw [← hR, World.cell?_alloc_new]; rfl
                have hrR : Below Z.heap.size Z R := by rw [← hR]; exact hr.alloc hr.size _
                have pR := HPZ.out.below hrR HPZ.out.lt
                have c78 : R.cell? ⟨w.heap.size, 78, none⟩ = some (.int .u8 1) := by rw [pR.cell 78 (by decide), HM78.out]; rfl
                have hk8 := kind_pock 1 d (by decide) (by omega)
                have ck : R.cell? ⟨w.heap.size, 72 + d, none⟩ = some (.int .u8 (m (72 + d))) := by
                  have := pR.cell (72 + d) (by omega)
                  rwa [show kindAt (72 + d) = .u8 from by have := hk8; rwa [show 66 + 6 * 1 + d = 72 + d by omega] at this] at this
                have cb : R.cell? ⟨w.heap.size, 1 + s, none⟩ = some (.int .u8 0) := by rw [pR.board (1 + s) (by omega), HBD.out]
                have HPK2 := hideIt (show m (72 + d) ≠ 0 by have := HPK.out; rwa [show 66 + 6 * 1 + d = 72 + d by omega] at this)
                have HR := hideIt hR
                have HRR := hideIt hrR
                generalize m (72 + d) = pk at ck HPK2
                have dpk : (pk == 0) = false := beq_eq_false_iff_ne.2 HPK2.out
                have dd1 : decide ((d : Int) < 1) = false := decide_eq_false (by omega)
                have dd5 : decide ((5 : Int) < d) = false := decide_eq_false (by omega)
                have l0 : (0 : Int) ≤ (d : Int) := by omega
                have l1 : (d : Int) < 6 := by omega
                have l2 : (0 : Int) ≤ (s : Int) := by omega
                have l3 : (s : Int) < 64 := by omega
                clear hR hrR hk8 pR
                go_wp2_with fail
                rw [HR.out]
                clear p0 p1 p2 p3 p4
                go_quiet (fail)
                clear ck cb c78 dpk
                by_cases hj0 : j = 0
                · have dj : decide ((0 : Int) < j) = false := decide_eq_false (by omega)
                  have dj2 : decide (0 < j) = false := decide_eq_false (by omega)
                  go_wp2
                  go_quiet (fail)
                  go_wp2
                  go_roundw
                  case rel => exact ⟨j + 1, by omega, by go_num, by first | exact HRR.out.trans ((blN16 _ _).mono HRR.out.size) | exact HRR.out.trans (((blN16 _ _).trans ((blN16 _ _).mono (Nat.le_refl _))).mono HRR.out.size)⟩
                  case measure => simp [intOf]; omega
                · obtain ⟨i, rfl⟩ : ∃ i, j = i + 1 := ⟨j - 1, by omega⟩
                  have hil : i < L.length := by rw [HLN.out]; omega
                  obtain ⟨s2, d2, hsd2, hs64', hd1', hd5', hq1, hq2⟩ := HMEM.out L[i] (List.getElem_mem hil)
                  have hlt2 := (List.pairwise_iff_getElem.1 HSRT.out) i (i + 1) hil hkl (by omega)
                  rw [hsd2, HSD.out] at hlt2
                  obtain ⟨_, p1, hq3, p3, hq4⟩ := HC1.out i hil
                  rw [hsd2] at p1 p3
                  have q1 : R.cell? ⟨g1, i * 5 + 1, none⟩ = some (.int .i8 s2) := (HRR.out.cell (p := ⟨g1, i * 5 + 1, none⟩) hs1).trans p1
                  have q3 : R.cell? ⟨g1, i * 5 + 3, none⟩ = some (.int .u8 d2) := (HRR.out.cell (p := ⟨g1, i * 5 + 3, none⟩) hs1).trans p3
                  have hor : d2 < d ∨ (d2 = d ∧ s2 < s) := by
                    rcases hlt2 with h | ⟨h1, h2⟩
                    · left
                      have : (d2 : Int) < (d : Int) := h
                      omega
                    · right
                      have h1 : (d2 : Int) = (d : Int) := h1
                      have h2 : (s2 : Int) < (s : Int) := h2
                      omega
                  have dj : decide ((0 : Int) < ((i + 1 : Nat) : Int)) = true := decide_eq_true (by omega)
                  have dj2 : decide (0 < i + 1) = true := decide_eq_true (by omega)
                  have dj3 : decide ((0 : Int) < (i : Int) + 1) = true := decide_eq_true (by omega)
                  have dg : decide ((d : Int) < d2) = false := decide_eq_false (by omega)
                  have dg2 : decide (d < d2) = false := decide_eq_false (by omega)
                  have k0 : (0 : Int) ≤ (i : Int) := by omega
                  have k1 : (i : Int) < (wc : Int) := by omega
                  have k2 : i < wc := by omega
                  clear HSD hq1 hq2 hq3 hq4 p1 p3 hsd2 hlt2 hkl hj0
                  rcases hor with h | ⟨h, h3⟩
                  · have de : ((d2 : Int) == (d : Int)) = false := beq_eq_false_iff_ne.2 (by omega)
                    have de2 : (d2 == d) = false := beq_eq_false_iff_ne.2 (by omega)
                    clear h
                    go_wp2
                    go_quiet (fail)
                    go_wp2
                    go_roundw
                    case rel => exact ⟨i + 1 + 1, by omega, by go_num, by first | exact HRR.out.trans ((blN16 _ _).mono HRR.out.size) | exact HRR.out.trans (((blN16 _ _).trans ((blN16 _ _).mono (Nat.le_refl _))).mono HRR.out.size)⟩
                    case measure => simp [intOf]; omega
                  · have de : ((d2 : Int) == (d : Int)) = true := beq_iff_eq.2 (by omega)
                    have de2 : (d2 == d) = true := beq_iff_eq.2 h
                    have ds : decide ((s : Int) ≤ s2) = false := decide_eq_false (by omega)
                    have ds2 : decide (s ≤ s2) = false := decide_eq_false (by omega)
                    clear h h3
                    go_wp2
                    go_quiet (fail)
                    go_wp2
                    go_roundw
                    case rel => exact ⟨i + 1 + 1, by omega, by go_num, by first | exact HRR.out.trans ((blN16 _ _).mono HRR.out.size) | exact HRR.out.trans (((blN16 _ _).trans ((blN16 _ _).mono (Nat.le_refl _))).mono HRR.out.size)⟩
                    case measure => simp [intOf]; omega
              · obtain rfl : j = wc := by omega
                have hbF := hbZ.trans (hr.mono hbZ.size)
                have hTF := HT0.out.below hbF (Nat.le_refl _)
                go_wp2_with fail
                refine (awakeD_any _ hTF).mono ?_
                rintro e w9 ⟨rfl, h9⟩
                have hbF := hbF.trans (h9.mono hbF.size)
                clear h9 hTF
                go_wp2
                go_ret
                exact ⟨rfl, hbF⟩


theorem dropEach_walk (n : Nat → Int) (w0 : PosOk n) (w : World) (hT : Tab w) :
    Calls Tryd.prog 6 #[.agg (posA n)] w fun e w' => e = .returned (.bool true) ∧ Below w.heap.size w w' := by
  have h : n 78 % 2 = 0 ∨ n 78 % 2 = 1 := by omega
  rcases h with h | h
  · exact de_0 n w0 h w hT
  · exact de_1 n w0 h w hT


end Go.Proofs.YtkkabacdiefabaaDoor
