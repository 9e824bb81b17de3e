/- Walks of rules: horde, racing, Start. -/
import Derived.Test.YtkkabacdiefabaaDoorVS
import Derived.Laws.ResultCell
namespace Go.Proofs.YtkkabacdiefabaaDoor
open Go Go.RowKit
set_option linter.unusedVariables false

def pawnK (n : Nat → Int) : Nat → Nat → Int
  | 0 => n
  | k + 1 => upd (pawnK n k) (1 + k) 1
def hordeN : Nat → Int := upd (upd (upd (upd (pawnK (upd (upd (bothN 7 chessL) 79 (-1)) 80 (-1)) 32) 34 1) 35 1) 38 1) 39 1

set_option maxHeartbeats 3200000 in
theorem horde_any (w : World) : Calls Tryd.prog 30 #[] w fun e w' => e = .returned (.agg (posA hordeN)) ∧ Below w.heap.size w w' := by
  have hzp := zeroPos
  obtain ⟨X, hX⟩ : ∃ X, w.alloc (.cells (posA zeroN) 31) = X := ⟨_, rfl⟩
  obtain ⟨pX, bX⟩ := box1 w zeroN X hX
  have HX := hideIt hX
  clear hX
  go_enter Tryd.func30, Tryd.ntmps30
  go_wp2_with (first | rw [HX.out])
  refine (chess_any _).mono ?_
  rintro e Y1 ⟨rfl, h1⟩
  have pX := pX.below h1 pX.lt
  have bX := bX.trans (h1.mono bX.size)
  clear h1
  go_wp2_with fail
  refine (both_any 7 (by decide) chessL (fun k => by unfold chessL; repeat (first | (exact ⟨by decide, by decide⟩) | split)) _).mono ?_
  rintro e Y ⟨rfl, h1⟩
  have pX := pX.below h1 pX.lt
  have bX := bX.trans (h1.mono bX.size)
  clear h1 HX
  obtain ⟨V, hV⟩ : ∃ V, (Y.alloc (.cells (posA zeroN) 31)).setRow Y.heap.size (posA (bothN 7 chessL)) = V := ⟨_, rfl⟩
  have hV2 : Y.alloc (.cells (posA (bothN 7 chessL)) 31) = V := by rw [← hV, World.setRow_alloc_new]
  have hlt := pX.lt
  have bld : Bld w w.heap.size Y.heap.size V (bothN 7 chessL) := by
    rw [← hV2]
    exact ⟨pX.alloc _, PosAt.new Y _, by omega, ⟨by omega, by omega⟩, bX.alloc (by omega) _⟩
  obtain ⟨g, hg⟩ : ∃ g, Y.heap.size = g := ⟨_, rfl⟩
  rw [hg] at bld
  have HV := hideIt hV
  have HG := hideIt hg
  have c79 : V.cell? ⟨g, 79, none⟩ = some (.int .i8 (bothN 7 chessL 79)) := bld.new.cell 79 (by decide)
  have c80 : V.cell? ⟨g, 80, none⟩ = some (.int .i8 (bothN 7 chessL 80)) := bld.new.cell 80 (by decide)
  have f79 := bld.new.free 79
  have f80 := bld.new.free 80
  have L0 := (bld.set 79 (-1) (k := .i8) rfl).set 80 (-1) (k := .i8) rfl
  clear hV hV2 hg pX bX hlt bld
  go_wp2_with (first | rw [HV.out, HG.out])
  generalize World.setCell (World.setCell V _ _) _ _ = V1 at L0 ⊢
  clear c79 c80 f79 f80 HV HG
  obtain ⟨n0, hn0⟩ : ∃ n0, upd (upd (bothN 7 chessL) 79 (-1)) 80 (-1) = n0 := ⟨_, rfl⟩
  rw [hn0] at L0
  have HN := hideIt hn0
  clear hn0
  go_loopw [10] (fun i wr => ∃ k : Nat, k ≤ 32 ∧ i = .int .i64 k ∧ Bld w w.heap.size g wr (pawnK n0 k)) (fun i _ => 32 - (intOf i).toNat)
  case atStart => exact ⟨0, by omega, rfl, L0⟩
  case round =>
    obtain ⟨k, hk, rfl, B⟩ := hrel
    by_cases hlt : k < 32
    · have cc := B.new.board (1 + k) (by omega)
      have ff := B.new.free (1 + k)
      have BS := B.setB (1 + k) (by omega) 1
      clear L0
      go_wp2
      go_roundw
      case rel => exact ⟨k + 1, by omega, by go_num, BS⟩
      case measure => simp [intOf]; omega
    · obtain rfl : k = 32 := by omega
      have hE : Hid (upd (upd (upd (upd (pawnK n0 32) 34 1) 35 1) 38 1) 39 1 = hordeN) := by rw [← HN.out]; rfl
      clear L0 HN
      generalize pawnK n0 32 = n1 at B hE
      have hg := B.new.lt
      obtain ⟨V2, hV⟩ : ∃ V2, wr.alloc (.cells #[.int .i64 33, .int .i64 34, .int .i64 37, .int .i64 38] 3) = V2 := ⟨_, rfl⟩
      have B2 : Bld w w.heap.size g V2 n1 := by rw [← hV]; exact ⟨B.res.alloc _, B.new.alloc _, B.far, B.low, B.below.alloc B.below.size _⟩
      obtain ⟨s, hs⟩ : ∃ s, wr.heap.size = s := ⟨_, rfl⟩
      have d0 : V2.cell? ⟨s, 0, none⟩ = some (.int .i64 33) := by rw [← hV, ← hs, World.cell?_alloc_new]; rfl
      have d1 : V2.cell? ⟨s, 1, none⟩ = some (.int .i64 34) := by rw [← hV, ← hs, World.cell?_alloc_new]; rfl
      have d2 : V2.cell? ⟨s, 2, none⟩ = some (.int .i64 37) := by rw [← hV, ← hs, World.cell?_alloc_new]; rfl
      have d3 : V2.cell? ⟨s, 3, none⟩ = some (.int .i64 38) := by rw [← hV, ← hs, World.cell?_alloc_new]; rfl
      have n1 : ¬ g = s := by omega
      have n2 : ¬ s = g := by omega
      have c34 := B2.new.board 34 (by decide)
      have c35 := B2.new.board 35 (by decide)
      have c38 := B2.new.board 38 (by decide)
      have c39 := B2.new.board 39 (by decide)
      have f34 := B2.new.free 34
      have f35 := B2.new.free 35
      have f38 := B2.new.free 38
      have f39 := B2.new.free 39
      have L := (((B2.setB 34 (by decide) 1).setB 35 (by decide) 1).setB 38 (by decide) 1).setB 39 (by decide) 1
      obtain ⟨V3, hV3⟩ : ∃ V3, (((V2.setCell ⟨g, 34, none⟩ (.int .u8 1)).setCell ⟨g, 35, none⟩ (.int .u8 1)).setCell ⟨g, 38, none⟩ (.int .u8 1)).setCell ⟨g, 39, none⟩ (.int .u8 1) = V3 := ⟨_, rfl⟩
      rw [hV3] at L
      obtain ⟨i1, r1⟩ := L.new.rules
      obtain ⟨i2, r2⟩ := L.res.rules
      have HV := hideIt hV
      have HV3 := hideIt hV3
      have HS := hideIt hs
      clear hV hV3 hs B B2 hg
      go_wp2_with (first | rw [HV.out, HS.out])
      refine wp_loop_rounds 5 ?_
      rw [rounds_succ]
      go_wp2
      rw [rounds_succ]
      go_wp2
      rw [rounds_succ]
      go_wp2
      rw [rounds_succ]
      go_wp2
      rw [rounds_succ]
      go_wp2_with (first | rw [HV3.out])
      refine bodyPost_ret (v := .agg (posA hordeN)) (pos_result Tryd.results30 _ _ _ _ rfl (by rw [hE.out]; exact L.res.setRow hordeN)) rfl ⟨rfl, by rw [hE.out]; exact below_setRow L.below (Nat.le_refl _) _⟩

def racN : Nat → Int := upd (upd (upd (upd (upd (upd (upd (upd (upd (upd (upd (upd (upd (upd (upd (upd (noneN 8) 1 13) 8 5) 2 12) 7 4) 3 11) 6 3) 4 10) 5 2) 9 14) 16 6) 10 12) 15 4) 11 11) 14 3) 12 10) 13 2

set_option maxRecDepth 100000 in
set_option maxHeartbeats 8000000 in
theorem racing_any (w : World) : Calls Tryd.prog 31 #[] w fun e w' => e = .returned (.agg (posA racN)) ∧ Below w.heap.size w w' := by
  have hzp := zeroPos
  obtain ⟨X, hX⟩ : ∃ X, w.alloc (.cells (posA zeroN) 31) = X := ⟨_, rfl⟩
  obtain ⟨pX, bX⟩ := box1 w zeroN X hX
  have HX := hideIt hX
  clear hX
  go_enter Tryd.func31, Tryd.ntmps31
  go_wp2_with (first | rw [HX.out])
  refine (none_any 8 _).mono ?_
  rintro e Y ⟨rfl, h1⟩
  have pX := pX.below h1 pX.lt
  have bX := bX.trans (h1.mono bX.size)
  clear h1 HX
  obtain ⟨V0, hV0⟩ : ∃ V0, (Y.alloc (.cells (posA zeroN) 31)).setRow Y.heap.size (posA (noneN 8)) = V0 := ⟨_, rfl⟩
  have hV2 : Y.alloc (.cells (posA (noneN 8)) 31) = V0 := by rw [← hV0, World.setRow_alloc_new]
  have hlt := pX.lt
  have bld : Bld w w.heap.size Y.heap.size V0 (noneN 8) := by
    rw [← hV2]
    exact ⟨pX.alloc _, PosAt.new Y _, by omega, ⟨by omega, by omega⟩, bX.alloc (by omega) _⟩
  obtain ⟨g, hg⟩ : ∃ g, Y.heap.size = g := ⟨_, rfl⟩
  rw [hg] at bld
  have hg1 := bld.new.lt
  obtain ⟨sa, hsa⟩ : ∃ sa, V0.heap.size = sa := ⟨_, rfl⟩
  obtain ⟨Va, hVa⟩ : ∃ Va, V0.alloc (.cells #[.int .u8 5, .int .u8 4, .int .u8 3, .int .u8 2] 5) = Va := ⟨_, rfl⟩
  have hsb : Va.heap.size = sa + 1 := by rw [← hVa, ← hsa]; simp
  obtain ⟨Vb, hVb⟩ : ∃ Vb, Va.alloc (.cells #[.int .u8 6, .int .u8 4, .int .u8 3, .int .u8 2] 5) = Vb := ⟨_, rfl⟩
  have hsc : Vb.heap.size = sa + 2 := by rw [← hVb]; simp; omega
  obtain ⟨V2, hVc⟩ : ∃ V2, Vb.alloc (.cells #[.slice (some ⟨sa, 0, none⟩) 4 4, .slice (some ⟨sa + 1, 0, none⟩) 4 4] 52) = V2 := ⟨_, rfl⟩
  have B2 : Bld w w.heap.size g V2 (noneN 8) := by
    rw [← hVc, ← hVb, ← hVa]
    exact ⟨((bld.res.alloc _).alloc _).alloc _, ((bld.new.alloc _).alloc _).alloc _, bld.far, bld.low, ((bld.below.alloc bld.below.size _).alloc (by have := bld.below.size; simp; omega) _).alloc (by have := bld.below.size; simp; omega) _⟩
  have a0 : V2.cell? ⟨sa, 0, none⟩ = some (.int .u8 5) := by rw [← hVc, World.cell?_alloc_lt _ _ _ (by show sa < Vb.heap.size; omega), ← hVb, World.cell?_alloc_lt _ _ _ (by show sa < Va.heap.size; omega), ← hVa, ← hsa, World.cell?_alloc_new]; rfl
  have a1 : V2.cell? ⟨sa, 1, none⟩ = some (.int .u8 4) := by rw [← hVc, World.cell?_alloc_lt _ _ _ (by show sa < Vb.heap.size; omega), ← hVb, World.cell?_alloc_lt _ _ _ (by show sa < Va.heap.size; omega), ← hVa, ← hsa, World.cell?_alloc_new]; rfl
  have a2 : V2.cell? ⟨sa, 2, none⟩ = some (.int .u8 3) := by rw [← hVc, World.cell?_alloc_lt _ _ _ (by show sa < Vb.heap.size; omega), ← hVb, World.cell?_alloc_lt _ _ _ (by show sa < Va.heap.size; omega), ← hVa, ← hsa, World.cell?_alloc_new]; rfl
  have a3 : V2.cell? ⟨sa, 3, none⟩ = some (.int .u8 2) := by rw [← hVc, World.cell?_alloc_lt _ _ _ (by show sa < Vb.heap.size; omega), ← hVb, World.cell?_alloc_lt _ _ _ (by show sa < Va.heap.size; omega), ← hVa, ← hsa, World.cell?_alloc_new]; rfl
  have b0 : V2.cell? ⟨sa + 1, 0, none⟩ = some (.int .u8 6) := by rw [← hVc, World.cell?_alloc_lt _ _ _ (by show sa + 1 < Vb.heap.size; omega), ← hVb, ← hsb, World.cell?_alloc_new]; rfl
  have b1 : V2.cell? ⟨sa + 1, 1, none⟩ = some (.int .u8 4) := by rw [← hVc, World.cell?_alloc_lt _ _ _ (by show sa + 1 < Vb.heap.size; omega), ← hVb, ← hsb, World.cell?_alloc_new]; rfl
  have b2 : V2.cell? ⟨sa + 1, 2, none⟩ = some (.int .u8 3) := by rw [← hVc, World.cell?_alloc_lt _ _ _ (by show sa + 1 < Vb.heap.size; omega), ← hVb, ← hsb, World.cell?_alloc_new]; rfl
  have b3 : V2.cell? ⟨sa + 1, 3, none⟩ = some (.int .u8 2) := by rw [← hVc, World.cell?_alloc_lt _ _ _ (by show sa + 1 < Vb.heap.size; omega), ← hVb, ← hsb, World.cell?_alloc_new]; rfl
  have e0 : V2.cell? ⟨sa + 2, 0, none⟩ = some (.slice (some ⟨sa, 0, none⟩) 4 4) := by rw [← hVc, ← hsc, World.cell?_alloc_new]; rfl
  have e1 : V2.cell? ⟨sa + 2, 1, none⟩ = some (.slice (some ⟨sa + 1, 0, none⟩) 4 4) := by rw [← hVc, ← hsc, World.cell?_alloc_new]; rfl
  have : ¬ g = sa := by omega
  have : ¬ sa = g := by omega
  have : ¬ g = sa + 1 := by omega
  have : ¬ sa + 1 = g := by omega
  have : ¬ g = sa + 2 := by omega
  have : ¬ sa + 2 = g := by omega
  have c1 := B2.new.board 1 (by decide)
  have f1 := B2.new.free 1
  have c2 := B2.new.board 2 (by decide)
  have f2 := B2.new.free 2
  have c3 := B2.new.board 3 (by decide)
  have f3 := B2.new.free 3
  have c4 := B2.new.board 4 (by decide)
  have f4 := B2.new.free 4
  have c5 := B2.new.board 5 (by decide)
  have f5 := B2.new.free 5
  have c6 := B2.new.board 6 (by decide)
  have f6 := B2.new.free 6
  have c7 := B2.new.board 7 (by decide)
  have f7 := B2.new.free 7
  have c8 := B2.new.board 8 (by decide)
  have f8 := B2.new.free 8
  have c9 := B2.new.board 9 (by decide)
  have f9 := B2.new.free 9
  have c10 := B2.new.board 10 (by decide)
  have f10 := B2.new.free 10
  have c11 := B2.new.board 11 (by decide)
  have f11 := B2.new.free 11
  have c12 := B2.new.board 12 (by decide)
  have f12 := B2.new.free 12
  have c13 := B2.new.board 13 (by decide)
  have f13 := B2.new.free 13
  have c14 := B2.new.board 14 (by decide)
  have f14 := B2.new.free 14
  have c15 := B2.new.board 15 (by decide)
  have f15 := B2.new.free 15
  have c16 := B2.new.board 16 (by decide)
  have f16 := B2.new.free 16
  have L := ((((((((((((((((B2).setB 1 (by decide) 13).setB 8 (by decide) 5).setB 2 (by decide) 12).setB 7 (by decide) 4).setB 3 (by decide) 11).setB 6 (by decide) 3).setB 4 (by decide) 10).setB 5 (by decide) 2).setB 9 (by decide) 14).setB 16 (by decide) 6).setB 10 (by decide) 12).setB 15 (by decide) 4).setB 11 (by decide) 11).setB 14 (by decide) 3).setB 12 (by decide) 10).setB 13 (by decide) 2
  obtain ⟨V3, hV3⟩ : ∃ V3, ((((((((((((((((V2).setCell ⟨g, 1, none⟩ (.int .u8 13)).setCell ⟨g, 8, none⟩ (.int .u8 5)).setCell ⟨g, 2, none⟩ (.int .u8 12)).setCell ⟨g, 7, none⟩ (.int .u8 4)).setCell ⟨g, 3, none⟩ (.int .u8 11)).setCell ⟨g, 6, none⟩ (.int .u8 3)).setCell ⟨g, 4, none⟩ (.int .u8 10)).setCell ⟨g, 5, none⟩ (.int .u8 2)).setCell ⟨g, 9, none⟩ (.int .u8 14)).setCell ⟨g, 16, none⟩ (.int .u8 6)).setCell ⟨g, 10, none⟩ (.int .u8 12)).setCell ⟨g, 15, none⟩ (.int .u8 4)).setCell ⟨g, 11, none⟩ (.int .u8 11)).setCell ⟨g, 14, none⟩ (.int .u8 3)).setCell ⟨g, 12, none⟩ (.int .u8 10)).setCell ⟨g, 13, none⟩ (.int .u8 2) = V3 := ⟨_, rfl⟩
  rw [hV3] at L
  obtain ⟨i1, r1⟩ := L.new.rules
  obtain ⟨i2, r2⟩ := L.res.rules
  obtain ⟨Z, hZ⟩ : ∃ Z, upd (upd (upd (upd (upd (upd (upd (upd (upd (upd (upd (upd (upd (upd (upd (upd (noneN 8) 1 13) 8 5) 2 12) 7 4) 3 11) 6 3) 4 10) 5 2) 9 14) 16 6) 10 12) 15 4) 11 11) 14 3) 12 10) 13 2 = Z := ⟨_, rfl⟩
  rw [hZ] at r1 L
  have HZ : Hid (Z = racN) := hZ.symm
  have HV := hideIt hV0
  have HG := hideIt hg
  have HA := hideIt hVa
  have HB := hideIt hVb
  have HC := hideIt hVc
  have HSA := hideIt hsa
  have HSB := hideIt hsb
  have HSC := hideIt hsc
  have HV3 := hideIt hV3
  clear hV0 hV2 hg hVa hVb hVc hsa hsb hsc hV3 hZ pX bX hlt bld B2 hg1
  go_wp2_with (first | rw [HV.out, HG.out] | rw [HA.out, HSA.out] | rw [HB.out, HSB.out] | rw [HC.out, HSC.out])
  refine wp_loop_rounds 3 ?_
  rw [rounds_succ]
  go_wp2
  refine wp_loop_rounds 5 ?_
  rw [rounds_succ]
  go_wp2_with (go_at_call 41; refine (black_any 5 (by decide) (by decide) _).mono ?_; rintro e w2 ⟨rfl, rfl⟩)
  rw [rounds_succ]
  go_wp2_with (go_at_call 41; refine (black_any 4 (by decide) (by decide) _).mono ?_; rintro e w2 ⟨rfl, rfl⟩)
  rw [rounds_succ]
  go_wp2_with (go_at_call 41; refine (black_any 3 (by decide) (by decide) _).mono ?_; rintro e w2 ⟨rfl, rfl⟩)
  rw [rounds_succ]
  go_wp2_with (go_at_call 41; refine (black_any 2 (by decide) (by decide) _).mono ?_; rintro e w2 ⟨rfl, rfl⟩)
  rw [rounds_succ]
  go_wp2
  rw [rounds_succ]
  go_wp2
  refine wp_loop_rounds 5 ?_
  rw [rounds_succ]
  go_wp2_with (go_at_call 41; refine (black_any 6 (by decide) (by decide) _).mono ?_; rintro e w2 ⟨rfl, rfl⟩)
  rw [rounds_succ]
  go_wp2_with (go_at_call 41; refine (black_any 4 (by decide) (by decide) _).mono ?_; rintro e w2 ⟨rfl, rfl⟩)
  rw [rounds_succ]
  go_wp2_with (go_at_call 41; refine (black_any 3 (by decide) (by decide) _).mono ?_; rintro e w2 ⟨rfl, rfl⟩)
  rw [rounds_succ]
  go_wp2_with (go_at_call 41; refine (black_any 2 (by decide) (by decide) _).mono ?_; rintro e w2 ⟨rfl, rfl⟩)
  rw [rounds_succ]
  go_wp2
  rw [rounds_succ]
  go_wp2_with (first | rw [HV3.out])
  refine bodyPost_ret (v := .agg (posA racN)) (pos_result Tryd.results31 _ _ _ _ rfl (by rw [HZ.out]; exact L.res.setRow racN)) rfl ⟨rfl, by rw [HZ.out]; exact below_setRow L.below (Nat.le_refl _) _⟩

theorem pos_result2 {fn : Func} {p u : Tmp} (h : fn.results = #[.cell p 31, .tmp u]) (tmps : Array Value) (w : World) (g : Nat) (n : Nat → Int) (v : Value)
    (hp : tmps.getD p undef = .pointer (some ⟨g, 0, none⟩)) (hv : tmps.getD u undef = v) (hg : PosAt w g n) : (results fn tmps).run Tryd.prog w = .ok (.tuple #[.agg (posA n), v]) w := by
  have hl := run_loadVar_row w g _ _ (posA n) _ _ hg Tryd.underlying31 rfl (by rw [posA_size]; exact sizePos)
  rw [results_cell_tmp h, hp, hv]
  simp [asAddr, hl, Result.andThen]

def startN (v : Nat) : Nat → Int := if 9 ≤ v then zeroN else if v = 7 then hordeN else if v = 8 then racN else bothN v chessL

set_option maxHeartbeats 1600000 in
theorem start_any (v : Nat) (hv : v ≤ 255) (w : World) : Calls Tryd.prog 23 #[.int .u8 (v : Int)] w fun e w' => e = .returned (.tuple #[.agg (posA (startN v)), .bool (decide (v < 9))]) ∧ Below w.heap.size w w' := by
  have hzp := zeroPos
  obtain ⟨X, hX⟩ : ∃ X, w.alloc (.cells (posA zeroN) 31) = X := ⟨_, rfl⟩
  obtain ⟨pX, bX⟩ := box1 w zeroN X hX
  have HX := hideIt hX
  clear hX
  have hc : 9 ≤ v ∨ v = 7 ∨ v = 8 ∨ (v < 9 ∧ v ≠ 7 ∧ v ≠ 8) := by omega
  rcases hc with h | rfl | rfl | ⟨h, h7, h8⟩
  · have E := hideIt (show startN v = zeroN from if_pos h)
    have D := hideIt (decide_eq_false (show ¬ v < 9 by omega))
    obtain ⟨i1, r1⟩ := pX.rules
    go_enter Tryd.func23, Tryd.ntmps23
    go_wp2_with (first | rw [HX.out] | (refine wpList_build rfl 31 _ rfl (by kernel_rfl) ?_; generalize hV : (Program.built Tryd.prog 31 _).getD #[] = V; obtain rfl : posA zeroN = V := Eq.trans (by kernel_rfl) hV; clear hV))
    refine bodyPost_ret (v := .tuple #[.agg (posA zeroN), .bool false]) (pos_result2 Tryd.results23 _ _ _ _ _ rfl rfl (pX.setRow _)) rfl ⟨by rw [E.out, D.out], below_setRow bX (Nat.le_refl _) _⟩
  · obtain ⟨i1, r1⟩ := pX.rules
    go_enter Tryd.func23, Tryd.ntmps23
    go_wp2_with (first | rw [HX.out])
    refine (horde_any _).mono ?_
    rintro e Y ⟨rfl, h1⟩
    have pX := pX.below h1 pX.lt
    have bX := bX.trans (h1.mono bX.size)
    clear h1 i1 r1
    obtain ⟨i1, r1⟩ := pX.rules
    go_wp2
    refine bodyPost_ret (v := .tuple #[.agg (posA hordeN), .bool true]) (pos_result2 Tryd.results23 _ _ _ _ _ rfl rfl (pX.setRow _)) rfl ⟨rfl, below_setRow bX (Nat.le_refl _) _⟩
  · obtain ⟨i1, r1⟩ := pX.rules
    go_enter Tryd.func23, Tryd.ntmps23
    go_wp2_with (first | rw [HX.out])
    refine (racing_any _).mono ?_
    rintro e Y ⟨rfl, h1⟩
    have pX := pX.below h1 pX.lt
    have bX := bX.trans (h1.mono bX.size)
    clear h1 i1 r1
    obtain ⟨i1, r1⟩ := pX.rules
    go_wp2
    refine bodyPost_ret (v := .tuple #[.agg (posA racN), .bool true]) (pos_result2 Tryd.results23 _ _ _ _ _ rfl rfl (pX.setRow _)) rfl ⟨rfl, below_setRow bX (Nat.le_refl _) _⟩
  · have E := hideIt (show startN v = bothN v chessL by unfold startN; rw [if_neg (by omega), if_neg h7, if_neg h8])
    have D := hideIt (decide_eq_true h)
    have e7 : ((v : Int) == 7) = false := beq_eq_false_iff_ne.2 (by omega)
    have e8 : ((v : Int) == 8) = false := beq_eq_false_iff_ne.2 (by omega)
    clear h7 h8
    go_enter Tryd.func23, Tryd.ntmps23
    go_wp2_with (first | rw [HX.out])
    refine (chess_any _).mono ?_
    rintro e Y ⟨rfl, h1⟩
    have pX := pX.below h1 pX.lt
    have bX := bX.trans (h1.mono bX.size)
    clear h1
    go_wp2_with fail
    refine (both_any v hv chessL (fun k => by unfold chessL; repeat (first | (exact ⟨by decide, by decide⟩) | split)) _).mono ?_
    rintro e Y2 ⟨rfl, h1⟩
    have pX := pX.below h1 pX.lt
    have bX := bX.trans (h1.mono bX.size)
    clear h1
    obtain ⟨i1, r1⟩ := pX.rules
    go_wp2
    refine bodyPost_ret (v := .tuple #[.agg (posA (bothN v chessL)), .bool true]) (pos_result2 Tryd.results23 _ _ _ _ _ rfl rfl (pX.setRow _)) rfl ⟨by rw [E.out, D.out], below_setRow bX (Nat.le_refl _) _⟩

end Go.Proofs.YtkkabacdiefabaaDoor
