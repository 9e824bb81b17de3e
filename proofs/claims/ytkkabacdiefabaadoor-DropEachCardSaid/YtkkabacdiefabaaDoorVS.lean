/- Walks of rules: none, black, chess, both. -/
import Derived.Test.YtkkabacdiefabaaDoorV
import Derived.Test.YtkkabacdiefabaaDoorK8
import Derived.Deep.DeepCutAuto
import Derived.Deep.LoopGhost
import Derived.Deep.RegionWith
import Derived.IntWalk
namespace Go.Proofs.YtkkabacdiefabaaDoor
open Go Go.RowKit
set_option linter.unusedVariables false

def noneN (v : Int) : Nat → Int := fun i => if i = 0 then v else if i = 79 then -1 else if i = 80 then -1 else if i = 81 then -1 else if i = 82 then -1 else if i = 83 then -1 else if i = 87 then 1 else 0

set_option maxHeartbeats 1600000 in
theorem none_any (v : Int) (w : World) : Calls Tryd.prog 40 #[.int .u8 v] w fun e w' => e = .returned (.agg (posA (noneN v))) ∧ Below w.heap.size w w' := by
  have hzp := zeroPos
  go_enter Tryd.func40, Tryd.ntmps40
  go_wp2_with (refine wpList_build rfl 31 _ rfl (by kernel_rfl) ?_; generalize hV : (Program.built Tryd.prog 31 _).getD #[] = V; obtain rfl : posA (noneN v) = V := Eq.trans (by kernel_rfl) hV; clear hV)
  refine bodyPost_ret (v := .agg (posA (noneN v))) (pos_result Tryd.results40 _ _ _ _ rfl ((PosAt.new w zeroN).setRow _)) rfl ⟨rfl, below_setRow ((Below.refl _ _).alloc (Nat.le_refl _) _) (Nat.le_refl _) _⟩

theorem black_any (x : Int) (h0 : 0 ≤ x) (h1 : x < 200) (w : World) : Calls Tryd.prog 41 #[.int .u8 x] w fun e w' => e = .returned (.int .u8 (8 + x)) ∧ w = w' := by
  go_enter Tryd.func41, Tryd.ntmps41
  go_wp2
  go_ret
  exact ⟨rfl, rfl⟩

def chessL : Nat → Int := fun k => if k = 0 then 4 else if k = 1 then 2 else if k = 2 then 3 else if k = 3 then 5 else if k = 4 then 6 else if k = 5 then 3 else if k = 6 then 2 else if k = 7 then 4 else 0
theorem chess_any (w : World) : Calls Tryd.prog 33 #[] w fun e w' => e = .returned (.agg (r8 chessL)) ∧ Below w.heap.size w w' := by
  have hzp := zero8
  go_enter Tryd.func33, Tryd.ntmps33
  go_wp2_with (refine wpList_build rfl 65 _ rfl (by kernel_rfl) ?_; generalize hV : (Program.built Tryd.prog 65 _).getD #[] = V; obtain rfl : r8 chessL = V := Eq.trans (by kernel_rfl) hV; clear hV)
  refine bodyPost_ret (v := .agg (r8 chessL)) (results_cell_row Tryd.results33 _ _ w.heap.size 65 (r8 chessL) (0, 0) _ rfl ((R8At.new w zeroN).setRow _) Tryd.underlying65 rfl (by rw [r8_size]; exact size8)) rfl ⟨rfl, below_setRow ((Below.refl _ _).alloc (Nat.le_refl _) _) (Nat.le_refl _) _⟩

/-- Both colors' pieces and pawns, file by file. -/
def menK (l n : Nat → Int) (k : Nat) : Nat → Int := upd (upd (upd (upd n (1 + k) (l k)) (1 + (8 + k)) 1) (1 + (56 + k)) (8 + l k)) (1 + (48 + k)) 9
def sideI (n : Nat → Int) : Nat := if n 80 < 0 then 1 else 0
def rookK (n : Nat → Int) (k : Nat) : Nat → Int := upd (upd n (79 + sideI n) k) (81 + sideI n) k
def bothK (v : Nat) (l : Nat → Int) : Nat → Nat → Int
  | 0 => noneN v
  | k + 1 => if casB v = true ∧ l k = 4 then rookK (menK l (bothK v l k) k) k else menK l (bothK v l k) k
def bothN (v : Nat) (l : Nat → Int) : Nat → Int := bothK v l 8

theorem i8_small : ∀ k : Fin 64, IntKind.i8.wrap (k.val : Int) = k.val := by decide +kernel

/-- The answer's block, and the one that is being built. -/
structure Bld (w0 : World) (r g : Nat) (W : World) (m : Nat → Int) : Prop where
  res : PosAt W r zeroN
  new : PosAt W g m
  far : r ≠ g
  low : w0.heap.size ≤ r ∧ w0.heap.size ≤ g
  below : Below w0.heap.size w0 W
theorem Bld.set {w0 W : World} {r g : Nat} {m : Nat → Int} (h : Bld w0 r g W m) (i : Nat) (x : Int) {k : IntKind} (hk : k = kindAt i) : Bld w0 r g (W.setCell ⟨g, i, none⟩ (.int k x)) (upd m i x) := by
  subst hk
  exact ⟨h.res.other (fun e => h.far e.symm) _, h.new.set i x, h.far, h.low, h.below.setCell h.low.2 _⟩
theorem Bld.setB {w0 W : World} {r g : Nat} {m : Nat → Int} (h : Bld w0 r g W m) (i : Nat) (hi : i ≤ 64) (x : Int) : Bld w0 r g (W.setCell ⟨g, i, none⟩ (.int .u8 x)) (upd m i x) := h.set i x (kind_board hi).symm
theorem Bld.drew {w0 W : World} {r g : Nat} {m : Nat → Int} (h : Bld w0 r g W m) : Bld w0 r g W.drew m := ⟨h.res, h.new, h.far, h.low, h.below.drew⟩
theorem Bld.then {w0 W W' : World} {r g : Nat} {m : Nat → Int} (h : Bld w0 r g W m) (hb : Below W.heap.size W W') : Bld w0 r g W' m :=
  ⟨h.res.below hb h.res.lt, h.new.below hb h.new.lt, h.far, h.low, h.below.trans (hb.mono h.below.size)⟩

set_option maxHeartbeats 3200000 in
theorem both_any (v : Nat) (hv : v ≤ 255) (l : Nat → Int) (hl : ∀ k, 0 ≤ l k ∧ l k < 200) (w : World) : Calls Tryd.prog 32 #[.int .u8 (v : Int), .agg (r8 l)] w fun e w' => e = .returned (.agg (posA (bothN v l))) ∧ Below w.heap.size w w' := by
  have hzp := zeroPos
  obtain ⟨X, hX⟩ : ∃ X, (w.alloc (.cells (r8 l) 65)).alloc (.cells (posA zeroN) 31) = X := ⟨_, rfl⟩
  have rX : R8At X w.heap.size l := by rw [← hX]; exact (R8At.new w l).alloc _
  have pX : PosAt X (w.heap.size + 1) zeroN := by rw [← hX]; exact PosAt.new1 w _ zeroN
  have bX : Below w.heap.size w X := by rw [← hX]; exact ((Below.refl _ _).alloc (Nat.le_refl _) _).alloc (by simp) _
  have sX : X.heap.size = w.heap.size + 2 := by rw [← hX]; simp
  have HX := hideIt hX
  have HL := hideIt hl
  have SX := hideIt sX
  clear hX hl sX
  go_enter Tryd.func32, Tryd.ntmps32
  go_wp2_with (first | rw [HX.out])
  refine (none_any v _).mono ?_
  rintro e Y ⟨rfl, h1⟩
  obtain ⟨V, hV⟩ : ∃ V, (Y.alloc (.cells (posA zeroN) 31)).setRow Y.heap.size (posA (noneN v)) = V := ⟨_, rfl⟩
  have hV2 : Y.alloc (.cells (posA (noneN v)) 31) = V := by rw [← hV, World.setRow_alloc_new]
  have hY := h1.size
  have sX := SX.out
  have bld : Bld w (w.heap.size + 1) Y.heap.size V (noneN v) := by
    rw [← hV2]
    exact ⟨(pX.below h1 pX.lt).alloc _, PosAt.new Y _, by omega, ⟨by omega, by omega⟩, (bX.trans (h1.mono bX.size)).alloc (by omega) _⟩
  have rV : R8At V w.heap.size l := by rw [← hV2]; exact (rX.below h1 rX.lt).alloc _
  obtain ⟨g, hg⟩ : ∃ g, Y.heap.size = g := ⟨_, rfl⟩
  rw [hg] at bld
  have HV := hideIt hV
  have HG := hideIt hg
  obtain ⟨i1, r1⟩ := rV.rules
  clear hV hV2 hg h1 rX pX bX SX HX sX hY
  go_wp2_with (first | rw [HV.out, HG.out])
  have L0 : Bld w (w.heap.size + 1) g V (bothK v l 0) := bld
  clear bld rV i1 r1 HV HG
  go_loopg [12] 8 (fun gk i wr => ∃ k : Nat, k + gk = 8 ∧ i = .int .i64 k ∧ Bld w (w.heap.size + 1) g wr (bothK v l k))
  case atStart => exact ⟨0, rfl, rfl, L0⟩
  case round =>
    obtain ⟨k, hgk, rfl, B⟩ := hrel
    by_cases hlt : k < 8
    · have hix := index_r8 l k hlt
      obtain ⟨b0, b1⟩ := HL.out k
      have BS := (B.setB (1 + k) (by omega) (l k)).setB (1 + (8 + k)) (by omega) 1
      have c1 := B.new.board (1 + k) (by omega)
      have f1 := B.new.free (1 + k)
      have c2 := B.new.board (1 + (8 + k)) (by omega)
      have f2 := B.new.free (1 + (8 + k))
      go_upto_region 6 with fail
      generalize World.setCell (World.setCell wr _ _) _ _ = V5 at BS ⊢
      clear c1 f1 c2 f2 B hix
      go_cut [] (fun wx => Bld w (w.heap.size + 1) g wx (menK l (bothK v l k) k))
      case first =>
        have c3 := BS.new.board (1 + (56 + k)) (by omega)
        have f3 := BS.new.free (1 + (56 + k))
        have c4 := BS.new.board (1 + (48 + k)) (by omega)
        have f4 := BS.new.free (1 + (48 + k))
        have s1 : IntKind.i64.wrap (56 + (k : Int)) = 56 + k := IntWalk.i64_in _ (by omega)
        have s2 : IntKind.i64.wrap (48 + (k : Int)) = 48 + k := IntWalk.i64_in _ (by omega)
        have s3 : (0 : Int) ≤ 56 + k := by omega
        have s4 : (0 : Int) ≤ 48 + k := by omega
        have s5 : (56 + (k : Int)).toNat = 56 + k := by omega
        have s6 : (48 + (k : Int)).toNat = 48 + k := by omega
        have s7 : (56 + (k : Int)) < 64 := by omega
        have s8 : (48 + (k : Int)) < 64 := by omega
        go_region_with (first | (go_at_call_of 41 (Value.int .u8 (l k)); refine (black_any _ b0 b1 _).mono ?_; rintro e w2 ⟨rfl, rfl⟩) | (go_at_call_of 41 (Value.int .u8 1); refine (black_any 1 (by decide) (by decide) _).mono ?_; rintro e w2 ⟨rfl, rfl⟩))
        go_wp2_with fail
        go_meet
        exact ((BS.setB (1 + (56 + k)) (by omega) (8 + l k)).setB (1 + (48 + k)) (by omega) 9).drew
      case rest =>
        clear BS
        have B := hcut
        clear hcut
        have HB := hideIt (show bothK v l (k + 1) = if casB v = true ∧ l k = 4 then rookK (menK l (bothK v l k) k) k else menK l (bothK v l k) k from rfl)
        obtain ⟨m, hm⟩ : ∃ m, menK l (bothK v l k) k = m := ⟨_, rfl⟩
        rw [hm] at B HB
        clear hm
        cases hc : casB v with
        | false =>
          have HB := hideIt (HB.out.trans (if_neg (fun h => by rw [hc] at h; exact absurd h.1 (by decide))))
          have HC := hideIt hc
          clear hc
          go_wp2_with fail
          refine (vcastles_any v hv _).mono ?_
          rw [HC.out]
          rintro e w2 ⟨rfl, h1⟩
          have B := B.then h1
          clear h1
          go_wp2
          go_roundg (gk - 1)
          case measure => omega
          case rel => exact ⟨k + 1, by omega, by go_num, by rw [HB.out]; exact B⟩
        | true =>
          have HC := hideIt hc
          by_cases h4 : l k = 4
          · have HB := hideIt (HB.out.trans (if_pos ⟨hc, h4⟩))
            clear hc
            have e4 : (l k == 4) = true := beq_iff_eq.2 h4
            clear h4
            by_cases h8 : m 80 < 0
            · have HS := hideIt (show sideI m = 1 from if_pos h8)
              go_wp2_with fail
              refine (vcastles_any v hv _).mono ?_
              rw [HC.out]
              rintro e w2 ⟨rfl, h1⟩
              have B := B.then h1
              clear h1
              have c80 : w2.cell? ⟨g, 80, none⟩ = some (.int .i8 (m 80)) := B.new.cell 80 (by decide)
              have ca : w2.cell? ⟨g, 80, none⟩ = some (.int .i8 (m 80)) := B.new.cell 80 (by decide)
              have cb : w2.cell? ⟨g, 82, none⟩ = some (.int .i8 (m 82)) := B.new.cell 82 (by decide)
              have fa := B.new.free 80
              have fb := B.new.free 82
              have BS := (B.set 80 (k : Int) (k := .i8) rfl).set 82 (k : Int) (k := .i8) rfl
              have s9 : IntKind.i8.wrap (k : Int) = k := i8_small ⟨k, by omega⟩
              go_wp2
              go_roundg (gk - 1)
              case measure => omega
              case rel => exact ⟨k + 1, by omega, by go_num, by rw [HB.out]; unfold rookK; rw [HS.out]; exact BS⟩
            · have HS := hideIt (show sideI m = 0 from if_neg h8)
              go_wp2_with fail
              refine (vcastles_any v hv _).mono ?_
              rw [HC.out]
              rintro e w2 ⟨rfl, h1⟩
              have B := B.then h1
              clear h1
              have c80 : w2.cell? ⟨g, 80, none⟩ = some (.int .i8 (m 80)) := B.new.cell 80 (by decide)
              have ca : w2.cell? ⟨g, 79, none⟩ = some (.int .i8 (m 79)) := B.new.cell 79 (by decide)
              have cb : w2.cell? ⟨g, 81, none⟩ = some (.int .i8 (m 81)) := B.new.cell 81 (by decide)
              have fa := B.new.free 79
              have fb := B.new.free 81
              have BS := (B.set 79 (k : Int) (k := .i8) rfl).set 81 (k : Int) (k := .i8) rfl
              have s9 : IntKind.i8.wrap (k : Int) = k := i8_small ⟨k, by omega⟩
              go_wp2
              go_roundg (gk - 1)
              case measure => omega
              case rel => exact ⟨k + 1, by omega, by go_num, by rw [HB.out]; unfold rookK; rw [HS.out]; exact BS⟩
          · have HB := hideIt (HB.out.trans (if_neg (fun h => h4 h.2)))
            have e4 : (l k == 4) = false := beq_eq_false_iff_ne.2 h4
            clear hc h4
            go_wp2_with fail
            refine (vcastles_any v hv _).mono ?_
            rw [HC.out]
            rintro e w2 ⟨rfl, h1⟩
            have B := B.then h1
            clear h1
            go_wp2
            go_roundg (gk - 1)
            case measure => omega
            case rel => exact ⟨k + 1, by omega, by go_num, by rw [HB.out]; exact B⟩
    · obtain rfl : k = 8 := by omega
      obtain ⟨i1, r1⟩ := B.new.rules
      obtain ⟨i2, r2⟩ := B.res.rules
      go_wp2
      refine bodyPost_ret (v := .agg (posA (bothN v l))) (pos_result Tryd.results32 _ _ _ _ rfl (B.res.setRow _)) rfl ⟨rfl, below_setRow B.below B.low.1 _⟩

end Go.Proofs.YtkkabacdiefabaaDoor
