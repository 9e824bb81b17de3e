/- The walk of board.Mirror. Lines alike written by gen_mirror.py. -/
import Derived.Test.YtlobmhhilkmfdaaDoorPM
import Derived.Test.YtlobmhhilkmfdaaDoorBF
namespace Go.Proofs.YtlobmhhilkmfdaaDoor
open Go Go.RowKit

theorem xor56_8 : ∀ k : Fin 64, bits .xor .i8 (k.val : Int) 56 = flipI (k.val : Int) := by decide +kernel
theorem xor56_i8 (s : Int) (h0 : 0 ≤ s) (h1 : s < 64) : bits .xor .i8 s 56 = flipI s := by
  have := xor56_8 ⟨s.toNat, by omega⟩
  simp only [Int.toNat_of_nonneg h0] at this
  exact this
theorem wf_i8 {x : Int} (h : (Lit.int .i8 x).wf = true) : -128 ≤ x ∧ x ≤ 127 := by
  simp [Lit.wf] at h
  have e1 : IntKind.i8.min = -128 := by decide
  have e2 : IntKind.i8.max = 127 := by decide
  omega

/-- The numbers before the loop. -/
theorem head_is (n : Nat → Int) (b : BitVec 64) (hb : n 65 = u b) (m1 m2 m3 m4 m5 : Nat → Int) (t : Int)
    (h1 : upd n 65 (u (flipB b)) = m1)
    (h2 : upd (upd (upd (upd (upd (upd (upd (upd (upd (upd (upd (upd m1 66 (n 72)) 67 (n 73)) 68 (n 74)) 69 (n 75)) 70 (n 76)) 71 (n 77)) 72 (n 66)) 73 (n 67)) 74 (n 68)) 75 (n 69)) 76 (n 70)) 77 (n 71) = m2)
    (h3 : upd (upd (upd (upd m2 79 (n 81)) 80 (n 82)) 81 (n 79)) 82 (n 80) = m3)
    (h4 : upd (upd m3 84 (n 85)) 85 (n 84) = m4)
    (h5 : upd m4 78 t = m5) (ht : t = mirN n 78) (i : Nat) : m5 i = headN n i := by
  subst h1 h2 h3 h4 h5
  unfold headN
  by_cases hi : 1 ≤ i ∧ i ≤ 64
  · rw [if_pos hi]
    simp only [upd]
    repeat (rw [if_neg (by omega)])
  · rw [if_neg hi]
    by_cases h83 : i = 83
    · subst h83; rw [if_pos rfl]
      simp [upd]
    · rw [if_neg h83]
      by_cases h78 : i = 78
      · subst h78; simp only [upd, if_true]; exact ht
      · by_cases hr : 65 ≤ i ∧ i ≤ 85
        · have hc : i = 65 ∨ i = 66 ∨ i = 67 ∨ i = 68 ∨ i = 69 ∨ i = 70 ∨ i = 71 ∨ i = 72 ∨ i = 73 ∨ i = 74 ∨ i = 75 ∨ i = 76 ∨ i = 77 ∨ i = 79 ∨ i = 80 ∨ i = 81 ∨ i = 82 ∨ i = 84 ∨ i = 85 := by omega
          rcases hc with rfl | rfl | rfl | rfl | rfl | rfl | rfl | rfl | rfl | rfl | rfl | rfl | rfl | rfl | rfl | rfl | rfl | rfl | rfl <;> simp [upd, mirN, hb, bits_u]
        · simp only [upd, mirN]
          repeat (rw [if_neg (by omega)])
theorem mir_of_head (n h : Nat → Int) (hh : ∀ i, h i = headN n i) (p : Int) (hp : p = mirN n 83) : posA (upd (turnK n h 64) 83 p) = posA (mirN n) := by
  apply posA_congr
  intro i _
  unfold upd turnK
  by_cases e : i = 83
  · subst e; rw [if_pos rfl]; exact hp
  · rw [if_neg e]
    by_cases h1 : 1 ≤ i ∧ i ≤ 64
    · have : (flipI ((i : Int) - 1)).toNat < 64 := by unfold flipI; omega
      rw [if_pos ⟨h1.1, h1.2, this⟩]
      unfold mirN
      rw [if_pos h1]
    · rw [if_neg (fun hc => h1 ⟨hc.1, hc.2.1⟩), hh i]
      unfold headN
      rw [if_neg h1, if_neg e]
theorem mir_of_head' (n h : Nat → Int) (hh : ∀ i, h i = headN n i) (hp : n 83 = mirN n 83) : posA (turnK n h 64) = posA (mirN n) := by
  have e : upd (turnK n h 64) 83 (n 83) = turnK n h 64 := by
    funext i
    unfold upd
    by_cases e : i = 83
    · subst e; rw [if_pos rfl]; unfold turnK; rw [if_neg (by omega), hh]; rfl
    · rw [if_neg e]
  rw [← e]; exact mir_of_head n h hh _ hp

set_option maxRecDepth 100000 in
set_option maxHeartbeats 8000000 in
theorem mirror_any (n : Nat → Int) (hn : PosOk n) (w : World) :
    Calls Tryd.prog 22 #[.agg (posA n)] w fun e w' => e = .returned (.agg (posA (mirN n))) ∧ Below w.heap.size w w' := by
  obtain ⟨b, hb65⟩ := of_wf (hn 65 (by decide))
  obtain ⟨X, hX⟩ : ∃ X, (w.alloc (.cells (posA n) 31)).alloc (.cells (posA zeroN) 31) = X := ⟨_, rfl⟩
  obtain ⟨Y, hY⟩ : ∃ Y, (X.alloc (.cells (posA zeroN) 31)).setRow X.heap.size (posA n) = Y := ⟨_, rfl⟩
  have M := Mir.begin hX hY
  obtain ⟨p0, p1, hb⟩ := box2 w n zeroN X hX
  obtain ⟨i0, r0⟩ := p0.rules
  generalize hg : X.heap.size = g at M
  have hgX := hideIt hg
  have HX := hideIt hX
  have HY := hideIt hY
  have hzp := zeroPos
  have c65 : Y.cell? ⟨w.heap.size, 65, none⟩ = some (.int .u64 (u b)) := by rw [← hb65]; exact M.own.cell 65 (by decide)
  clear hX hY hg
  obtain ⟨Z1, hZ1⟩ : ∃ Z, Y.setCell ⟨g, 65, none⟩ (.int .u64 (u (flipB b))) = Z := ⟨_, rfl⟩
  obtain ⟨m1, hm1⟩ : ∃ m, upd n 65 (u (flipB b)) = m := ⟨_, rfl⟩
  have M1 : Mir w g n Z1 m1 := by rw [← hZ1, ← hm1]; exact (M.set 65 (u (flipB b)) (k := .u64) rfl)
  obtain ⟨Z2, hZ2⟩ : ∃ Z, (((((((((((Z1.setCell ⟨g, 66, none⟩ (.int .u8 (n 72))).setCell ⟨g, 67, none⟩ (.int .u8 (n 73))).setCell ⟨g, 68, none⟩ (.int .u8 (n 74))).setCell ⟨g, 69, none⟩ (.int .u8 (n 75))).setCell ⟨g, 70, none⟩ (.int .u8 (n 76))).setCell ⟨g, 71, none⟩ (.int .u8 (n 77))).setCell ⟨g, 72, none⟩ (.int .u8 (n 66))).setCell ⟨g, 73, none⟩ (.int .u8 (n 67))).setCell ⟨g, 74, none⟩ (.int .u8 (n 68))).setCell ⟨g, 75, none⟩ (.int .u8 (n 69))).setCell ⟨g, 76, none⟩ (.int .u8 (n 70))).setCell ⟨g, 77, none⟩ (.int .u8 (n 71)) = Z := ⟨_, rfl⟩
  obtain ⟨m2, hm2⟩ : ∃ m, upd (upd (upd (upd (upd (upd (upd (upd (upd (upd (upd (upd m1 66 (n 72)) 67 (n 73)) 68 (n 74)) 69 (n 75)) 70 (n 76)) 71 (n 77)) 72 (n 66)) 73 (n 67)) 74 (n 68)) 75 (n 69)) 76 (n 70)) 77 (n 71) = m := ⟨_, rfl⟩
  have M2 : Mir w g n Z2 m2 := by rw [← hZ2, ← hm2]; exact ((((((((((((M1.set 66 (n 72) (k := .u8) rfl).set 67 (n 73) (k := .u8) rfl).set 68 (n 74) (k := .u8) rfl).set 69 (n 75) (k := .u8) rfl).set 70 (n 76) (k := .u8) rfl).set 71 (n 77) (k := .u8) rfl).set 72 (n 66) (k := .u8) rfl).set 73 (n 67) (k := .u8) rfl).set 74 (n 68) (k := .u8) rfl).set 75 (n 69) (k := .u8) rfl).set 76 (n 70) (k := .u8) rfl).set 77 (n 71) (k := .u8) rfl)
  obtain ⟨Z3, hZ3⟩ : ∃ Z, (((Z2.setCell ⟨g, 79, none⟩ (.int .i8 (n 81))).setCell ⟨g, 80, none⟩ (.int .i8 (n 82))).setCell ⟨g, 81, none⟩ (.int .i8 (n 79))).setCell ⟨g, 82, none⟩ (.int .i8 (n 80)) = Z := ⟨_, rfl⟩
  obtain ⟨m3, hm3⟩ : ∃ m, upd (upd (upd (upd m2 79 (n 81)) 80 (n 82)) 81 (n 79)) 82 (n 80) = m := ⟨_, rfl⟩
  have M3 : Mir w g n Z3 m3 := by rw [← hZ3, ← hm3]; exact ((((M2.set 79 (n 81) (k := .i8) rfl).set 80 (n 82) (k := .i8) rfl).set 81 (n 79) (k := .i8) rfl).set 82 (n 80) (k := .i8) rfl)
  obtain ⟨Z4, hZ4⟩ : ∃ Z, (Z3.setCell ⟨g, 84, none⟩ (.int .u8 (n 85))).setCell ⟨g, 85, none⟩ (.int .u8 (n 84)) = Z := ⟨_, rfl⟩
  obtain ⟨m4, hm4⟩ : ∃ m, upd (upd m3 84 (n 85)) 85 (n 84) = m := ⟨_, rfl⟩
  have M4 : Mir w g n Z4 m4 := by rw [← hZ4, ← hm4]; exact ((M3.set 84 (n 85) (k := .u8) rfl).set 85 (n 84) (k := .u8) rfl)
  have t0 := (wf_u8 (hn 78 (by decide))).1
  have t1 := (wf_u8 (hn 78 (by decide))).2
  have g_Y_65 : Y.cell? ⟨g, 65, none⟩ = some (.int .u64 (n 65)) := M.new.cell 65 (by decide)
  have f_Y_65 := M.new.free 65
  have o_Z1_66 : Z1.cell? ⟨w.heap.size, 66, none⟩ = some (.int .u8 (n 66)) := M1.own.cell 66 (by decide)
  have o_Z1_67 : Z1.cell? ⟨w.heap.size, 67, none⟩ = some (.int .u8 (n 67)) := M1.own.cell 67 (by decide)
  have o_Z1_68 : Z1.cell? ⟨w.heap.size, 68, none⟩ = some (.int .u8 (n 68)) := M1.own.cell 68 (by decide)
  have o_Z1_69 : Z1.cell? ⟨w.heap.size, 69, none⟩ = some (.int .u8 (n 69)) := M1.own.cell 69 (by decide)
  have o_Z1_70 : Z1.cell? ⟨w.heap.size, 70, none⟩ = some (.int .u8 (n 70)) := M1.own.cell 70 (by decide)
  have o_Z1_71 : Z1.cell? ⟨w.heap.size, 71, none⟩ = some (.int .u8 (n 71)) := M1.own.cell 71 (by decide)
  have o_Z1_72 : Z1.cell? ⟨w.heap.size, 72, none⟩ = some (.int .u8 (n 72)) := M1.own.cell 72 (by decide)
  have o_Z1_73 : Z1.cell? ⟨w.heap.size, 73, none⟩ = some (.int .u8 (n 73)) := M1.own.cell 73 (by decide)
  have o_Z1_74 : Z1.cell? ⟨w.heap.size, 74, none⟩ = some (.int .u8 (n 74)) := M1.own.cell 74 (by decide)
  have o_Z1_75 : Z1.cell? ⟨w.heap.size, 75, none⟩ = some (.int .u8 (n 75)) := M1.own.cell 75 (by decide)
  have o_Z1_76 : Z1.cell? ⟨w.heap.size, 76, none⟩ = some (.int .u8 (n 76)) := M1.own.cell 76 (by decide)
  have o_Z1_77 : Z1.cell? ⟨w.heap.size, 77, none⟩ = some (.int .u8 (n 77)) := M1.own.cell 77 (by decide)
  have g_Z1_66 : Z1.cell? ⟨g, 66, none⟩ = some (.int .u8 (m1 66)) := M1.new.cell 66 (by decide)
  have f_Z1_66 := M1.new.free 66
  have g_Z1_67 : Z1.cell? ⟨g, 67, none⟩ = some (.int .u8 (m1 67)) := M1.new.cell 67 (by decide)
  have f_Z1_67 := M1.new.free 67
  have g_Z1_68 : Z1.cell? ⟨g, 68, none⟩ = some (.int .u8 (m1 68)) := M1.new.cell 68 (by decide)
  have f_Z1_68 := M1.new.free 68
  have g_Z1_69 : Z1.cell? ⟨g, 69, none⟩ = some (.int .u8 (m1 69)) := M1.new.cell 69 (by decide)
  have f_Z1_69 := M1.new.free 69
  have g_Z1_70 : Z1.cell? ⟨g, 70, none⟩ = some (.int .u8 (m1 70)) := M1.new.cell 70 (by decide)
  have f_Z1_70 := M1.new.free 70
  have g_Z1_71 : Z1.cell? ⟨g, 71, none⟩ = some (.int .u8 (m1 71)) := M1.new.cell 71 (by decide)
  have f_Z1_71 := M1.new.free 71
  have g_Z1_72 : Z1.cell? ⟨g, 72, none⟩ = some (.int .u8 (m1 72)) := M1.new.cell 72 (by decide)
  have f_Z1_72 := M1.new.free 72
  have g_Z1_73 : Z1.cell? ⟨g, 73, none⟩ = some (.int .u8 (m1 73)) := M1.new.cell 73 (by decide)
  have f_Z1_73 := M1.new.free 73
  have g_Z1_74 : Z1.cell? ⟨g, 74, none⟩ = some (.int .u8 (m1 74)) := M1.new.cell 74 (by decide)
  have f_Z1_74 := M1.new.free 74
  have g_Z1_75 : Z1.cell? ⟨g, 75, none⟩ = some (.int .u8 (m1 75)) := M1.new.cell 75 (by decide)
  have f_Z1_75 := M1.new.free 75
  have g_Z1_76 : Z1.cell? ⟨g, 76, none⟩ = some (.int .u8 (m1 76)) := M1.new.cell 76 (by decide)
  have f_Z1_76 := M1.new.free 76
  have g_Z1_77 : Z1.cell? ⟨g, 77, none⟩ = some (.int .u8 (m1 77)) := M1.new.cell 77 (by decide)
  have f_Z1_77 := M1.new.free 77
  have o_Z2_79 : Z2.cell? ⟨w.heap.size, 79, none⟩ = some (.int .i8 (n 79)) := M2.own.cell 79 (by decide)
  have o_Z2_80 : Z2.cell? ⟨w.heap.size, 80, none⟩ = some (.int .i8 (n 80)) := M2.own.cell 80 (by decide)
  have o_Z2_81 : Z2.cell? ⟨w.heap.size, 81, none⟩ = some (.int .i8 (n 81)) := M2.own.cell 81 (by decide)
  have o_Z2_82 : Z2.cell? ⟨w.heap.size, 82, none⟩ = some (.int .i8 (n 82)) := M2.own.cell 82 (by decide)
  have g_Z2_79 : Z2.cell? ⟨g, 79, none⟩ = some (.int .i8 (m2 79)) := M2.new.cell 79 (by decide)
  have f_Z2_79 := M2.new.free 79
  have g_Z2_80 : Z2.cell? ⟨g, 80, none⟩ = some (.int .i8 (m2 80)) := M2.new.cell 80 (by decide)
  have f_Z2_80 := M2.new.free 80
  have g_Z2_81 : Z2.cell? ⟨g, 81, none⟩ = some (.int .i8 (m2 81)) := M2.new.cell 81 (by decide)
  have f_Z2_81 := M2.new.free 81
  have g_Z2_82 : Z2.cell? ⟨g, 82, none⟩ = some (.int .i8 (m2 82)) := M2.new.cell 82 (by decide)
  have f_Z2_82 := M2.new.free 82
  have o_Z3_84 : Z3.cell? ⟨w.heap.size, 84, none⟩ = some (.int .u8 (n 84)) := M3.own.cell 84 (by decide)
  have o_Z3_85 : Z3.cell? ⟨w.heap.size, 85, none⟩ = some (.int .u8 (n 85)) := M3.own.cell 85 (by decide)
  have g_Z3_84 : Z3.cell? ⟨g, 84, none⟩ = some (.int .u8 (m3 84)) := M3.new.cell 84 (by decide)
  have f_Z3_84 := M3.new.free 84
  have g_Z3_85 : Z3.cell? ⟨g, 85, none⟩ = some (.int .u8 (m3 85)) := M3.new.cell 85 (by decide)
  have f_Z3_85 := M3.new.free 85
  have o_Z4_78 : Z4.cell? ⟨w.heap.size, 78, none⟩ = some (.int .u8 (n 78)) := M4.own.cell 78 (by decide)
  have g_Z4_78 : Z4.cell? ⟨g, 78, none⟩ = some (.int .u8 (m4 78)) := M4.new.cell 78 (by decide)
  have f_Z4_78 := M4.new.free 78
  have HZ1 := hideIt hZ1
  clear hZ1
  have HZ2 := hideIt hZ2
  clear hZ2
  have HZ3 := hideIt hZ3
  clear hZ3
  have HZ4 := hideIt hZ4
  clear hZ4
  have Hm1 := hideIt hm1
  clear hm1
  have Hm2 := hideIt hm2
  clear hm2
  have Hm3 := hideIt hm3
  clear hm3
  have Hm4 := hideIt hm4
  clear hm4
  by_cases ht : n 78 ≤ 1
  · have ht5 : (1 - n 78) = mirN n 78 := by
      have : mirN n 78 = if n 78 = 0 then 1 else if n 78 = 1 then 0 else n 78 := rfl
      rw [this]; split
      · omega
      · split <;> omega
    obtain ⟨m5, h5⟩ : ∃ m, upd m4 78 (1 - n 78) = m := ⟨_, rfl⟩
    obtain ⟨Z5, hZ5⟩ : ∃ Z, Z4.setCell ⟨g, 78, none⟩ (.int .u8 (1 - n 78)) = Z := ⟨_, rfl⟩
    have M5 : Mir w g n Z5 m5 := by rw [← hZ5, ← h5]; exact M4.set 78 _ rfl
    have HZ5 := hideIt hZ5
    have H5 := hideIt h5
    have HT5 := hideIt ht5
    clear hZ5 h5 ht5
    go_enter Tryd.func22, Tryd.ntmps22
    go_wp2_with (first | rw [HX.out] | rw [HY.out, hgX.out])
    refine (flip_any b rfl _).mono ?_
    rintro e w1 ⟨rfl, rfl⟩
    go_wp2_with (first | rw [HZ1.out] | rw [HZ2.out] | rw [HZ3.out] | rw [HZ4.out] | rw [HZ5.out])
    clear o_Z1_66 o_Z1_67 o_Z1_68 o_Z1_69 o_Z1_70 o_Z1_71 o_Z1_72 o_Z1_73 o_Z1_74 o_Z1_75 o_Z1_76 o_Z1_77 g_Z1_66 f_Z1_66 g_Z1_67 f_Z1_67 g_Z1_68 f_Z1_68 g_Z1_69 f_Z1_69 g_Z1_70 f_Z1_70 g_Z1_71 f_Z1_71 g_Z1_72 f_Z1_72 g_Z1_73 f_Z1_73 g_Z1_74 f_Z1_74 g_Z1_75 f_Z1_75 g_Z1_76 f_Z1_76 g_Z1_77 f_Z1_77 o_Z2_79 g_Z2_79 f_Z2_79 o_Z2_80 g_Z2_80 f_Z2_80 o_Z2_81 g_Z2_81 f_Z2_81 o_Z2_82 g_Z2_82 f_Z2_82 o_Z3_84 g_Z3_84 f_Z3_84 o_Z3_85 g_Z3_85 f_Z3_85 o_Z4_78 g_Z4_78 f_Z4_78 g_Y_65 f_Y_65 c65
    have h5 := H5.out
    have ht5 := HT5.out
    clear H5 HT5
    have HH := hideIt (head_is n b hb65 m1 m2 m3 m4 m5 _ Hm1.out Hm2.out Hm3.out Hm4.out h5 ht5)
    clear h5 ht5 Hm1 Hm2 Hm3 Hm4
    go_loopw [41] (fun i wr => ∃ k : Nat, k ≤ 64 ∧ i = .int .i64 k ∧ Mir w g n wr (turnK n m5 k)) (fun i _ => 64 - (intOf i).toNat)
    case atStart => exact ⟨0, by omega, rfl, by rw [turnK_zero]; exact M5⟩
    case round =>
      obtain ⟨k, hk, rfl, MR⟩ := hrel
      by_cases hlt : k < 64
      · have hfl : 0 ≤ flipI (k : Int) ∧ flipI (k : Int) < 64 := by unfold flipI; omega
        have hx := xor56 (k : Int) (by omega) (by omega)
        have MN := MR.set (1 + (flipI (k : Int)).toNat) (othI (n (1 + k))) (k := .u8) (kind_board (by omega)).symm
        rw [turnK_succ n m5 k hlt] at MN
        have v0 := (wf_u8 (show (Lit.int .u8 (n (1 + k))).wf = true by have := hn (1 + k) (by omega); rw [kind_board (by omega)] at this; exact this)).1
        have v1 := (wf_u8 (show (Lit.int .u8 (n (1 + k))).wf = true by have := hn (1 + k) (by omega); rw [kind_board (by omega)] at this; exact this)).2
        have a1 := MR.own.board (1 + k) (by omega)
        have a2 := MR.new.board (1 + (flipI (k : Int)).toNat) (by omega)
        have a3 := MR.new.free (1 + (flipI (k : Int)).toNat)
        obtain ⟨q0, q1⟩ := hfl
        generalize flipI (k : Int) = z at *
        go_wp2_with (go_at_call 42; refine (other_any _ v0 v1 _).mono ?_; rintro e w2 ⟨rfl, rfl⟩)
        go_roundw
        case rel => exact ⟨k + 1, by omega, by go_num, MN⟩
        case measure => simp [intOf]; omega
      · obtain rfl : k = 64 := by omega
        have b0 := (wf_i8 (hn 83 (by decide))).1
        have b1 := (wf_i8 (hn 83 (by decide))).2
        have a1 : wr.cell? ⟨w.heap.size, 83, none⟩ = some (.int .i8 (n 83)) := MR.own.cell 83 (by decide)
        by_cases hp : 0 ≤ n 83 ∧ n 83 < 64
        · have D := hideIt (decide_eq_true hp)
          have hx := xor56_i8 (n 83) hp.1 hp.2
          have hE := hideIt (mir_of_head n m5 HH.out (flipI (n 83)) (by have : mirN n 83 = if 0 ≤ n 83 ∧ n 83 < 64 then flipI (n 83) else n 83 := rfl; rw [this, if_pos hp]))
          obtain ⟨V, hV⟩ : ∃ V, wr.setCell ⟨g, 83, none⟩ (.int .i8 (flipI (n 83))) = V := ⟨_, rfl⟩
          have MV := MR.set 83 (flipI (n 83)) (k := .i8) rfl
          rw [hV] at MV
          have HV := hideIt hV
          have a2 : wr.cell? ⟨g, 83, none⟩ = some (.int .i8 (turnK n m5 64 83)) := MR.new.cell 83 (by decide)
          have a3 := MR.new.free 83
          obtain ⟨i1, r1⟩ := MV.new.rules
          obtain ⟨i2, r2⟩ := MV.res.rules
          clear hp hV i0 r0
          go_wp2_with (first | rw [HV.out] | (go_at_call 34; refine (bsq_any _ _).mono ?_; rintro e w2 ⟨rfl, rfl⟩; rw [D.out]))
          refine bodyPost_ret (v := .agg (posA (upd (turnK n m5 64) 83 (flipI (n 83))))) (pos_result Tryd.results22 _ _ _ _ rfl (MV.res.setRow _)) rfl ⟨by rw [hE.out], below_setRow MV.below (by omega) _⟩
        · have D := hideIt (decide_eq_false hp)
          have hE := hideIt (mir_of_head' n m5 HH.out (by have : mirN n 83 = if 0 ≤ n 83 ∧ n 83 < 64 then flipI (n 83) else n 83 := rfl; rw [this, if_neg hp]))
          obtain ⟨i1, r1⟩ := MR.new.rules
          obtain ⟨i2, r2⟩ := MR.res.rules
          clear hp i0 r0
          go_wp2_with (go_at_call 34; refine (bsq_any _ _).mono ?_; rintro e w2 ⟨rfl, rfl⟩; rw [D.out])
          refine bodyPost_ret (v := .agg (posA (turnK n m5 64))) (pos_result Tryd.results22 _ _ _ _ rfl (MR.res.setRow _)) rfl ⟨by rw [hE.out], below_setRow MR.below (by omega) _⟩

  · have ht5 : n 78 = mirN n 78 := by
      have : mirN n 78 = if n 78 = 0 then 1 else if n 78 = 1 then 0 else n 78 := rfl
      rw [this, if_neg (by omega), if_neg (by omega)]
    have h5 : upd m4 78 (n 78) = m4 := by
      have e : m4 78 = n 78 := by rw [← Hm4.out, ← Hm3.out, ← Hm2.out, ← Hm1.out]; rfl
      funext i
      unfold upd
      by_cases hi : i = 78
      · subst hi; rw [if_pos rfl]; exact e.symm
      · rw [if_neg hi]
    obtain ⟨m5, hm5⟩ : ∃ m, m4 = m := ⟨_, rfl⟩
    have M5 := M4
    have H5 := hideIt h5
    have HT5 := hideIt ht5
    clear h5 ht5 hm5 m5
    go_enter Tryd.func22, Tryd.ntmps22
    go_wp2_with (first | rw [HX.out] | rw [HY.out, hgX.out])
    refine (flip_any b rfl _).mono ?_
    rintro e w1 ⟨rfl, rfl⟩
    go_wp2_with (first | rw [HZ1.out] | rw [HZ2.out] | rw [HZ3.out] | rw [HZ4.out])
    clear o_Z1_66 o_Z1_67 o_Z1_68 o_Z1_69 o_Z1_70 o_Z1_71 o_Z1_72 o_Z1_73 o_Z1_74 o_Z1_75 o_Z1_76 o_Z1_77 g_Z1_66 f_Z1_66 g_Z1_67 f_Z1_67 g_Z1_68 f_Z1_68 g_Z1_69 f_Z1_69 g_Z1_70 f_Z1_70 g_Z1_71 f_Z1_71 g_Z1_72 f_Z1_72 g_Z1_73 f_Z1_73 g_Z1_74 f_Z1_74 g_Z1_75 f_Z1_75 g_Z1_76 f_Z1_76 g_Z1_77 f_Z1_77 o_Z2_79 g_Z2_79 f_Z2_79 o_Z2_80 g_Z2_80 f_Z2_80 o_Z2_81 g_Z2_81 f_Z2_81 o_Z2_82 g_Z2_82 f_Z2_82 o_Z3_84 g_Z3_84 f_Z3_84 o_Z3_85 g_Z3_85 f_Z3_85 o_Z4_78 g_Z4_78 f_Z4_78 g_Y_65 f_Y_65 c65
    have h5 := H5.out
    have ht5 := HT5.out
    clear H5 HT5
    have HH := hideIt (head_is n b hb65 m1 m2 m3 m4 m4 _ Hm1.out Hm2.out Hm3.out Hm4.out h5 ht5)
    clear h5 ht5 Hm1 Hm2 Hm3 Hm4
    go_loopw [41] (fun i wr => ∃ k : Nat, k ≤ 64 ∧ i = .int .i64 k ∧ Mir w g n wr (turnK n m4 k)) (fun i _ => 64 - (intOf i).toNat)
    case atStart => exact ⟨0, by omega, rfl, by rw [turnK_zero]; exact M5⟩
    case round =>
      obtain ⟨k, hk, rfl, MR⟩ := hrel
      by_cases hlt : k < 64
      · have hfl : 0 ≤ flipI (k : Int) ∧ flipI (k : Int) < 64 := by unfold flipI; omega
        have hx := xor56 (k : Int) (by omega) (by omega)
        have MN := MR.set (1 + (flipI (k : Int)).toNat) (othI (n (1 + k))) (k := .u8) (kind_board (by omega)).symm
        rw [turnK_succ n m4 k hlt] at MN
        have v0 := (wf_u8 (show (Lit.int .u8 (n (1 + k))).wf = true by have := hn (1 + k) (by omega); rw [kind_board (by omega)] at this; exact this)).1
        have v1 := (wf_u8 (show (Lit.int .u8 (n (1 + k))).wf = true by have := hn (1 + k) (by omega); rw [kind_board (by omega)] at this; exact this)).2
        have a1 := MR.own.board (1 + k) (by omega)
        have a2 := MR.new.board (1 + (flipI (k : Int)).toNat) (by omega)
        have a3 := MR.new.free (1 + (flipI (k : Int)).toNat)
        obtain ⟨q0, q1⟩ := hfl
        generalize flipI (k : Int) = z at *
        go_wp2_with (go_at_call 42; refine (other_any _ v0 v1 _).mono ?_; rintro e w2 ⟨rfl, rfl⟩)
        go_roundw
        case rel => exact ⟨k + 1, by omega, by go_num, MN⟩
        case measure => simp [intOf]; omega
      · obtain rfl : k = 64 := by omega
        have b0 := (wf_i8 (hn 83 (by decide))).1
        have b1 := (wf_i8 (hn 83 (by decide))).2
        have a1 : wr.cell? ⟨w.heap.size, 83, none⟩ = some (.int .i8 (n 83)) := MR.own.cell 83 (by decide)
        by_cases hp : 0 ≤ n 83 ∧ n 83 < 64
        · have D := hideIt (decide_eq_true hp)
          have hx := xor56_i8 (n 83) hp.1 hp.2
          have hE := hideIt (mir_of_head n m4 HH.out (flipI (n 83)) (by have : mirN n 83 = if 0 ≤ n 83 ∧ n 83 < 64 then flipI (n 83) else n 83 := rfl; rw [this, if_pos hp]))
          obtain ⟨V, hV⟩ : ∃ V, wr.setCell ⟨g, 83, none⟩ (.int .i8 (flipI (n 83))) = V := ⟨_, rfl⟩
          have MV := MR.set 83 (flipI (n 83)) (k := .i8) rfl
          rw [hV] at MV
          have HV := hideIt hV
          have a2 : wr.cell? ⟨g, 83, none⟩ = some (.int .i8 (turnK n m4 64 83)) := MR.new.cell 83 (by decide)
          have a3 := MR.new.free 83
          obtain ⟨i1, r1⟩ := MV.new.rules
          obtain ⟨i2, r2⟩ := MV.res.rules
          clear hp hV i0 r0
          go_wp2_with (first | rw [HV.out] | (go_at_call 34; refine (bsq_any _ _).mono ?_; rintro e w2 ⟨rfl, rfl⟩; rw [D.out]))
          refine bodyPost_ret (v := .agg (posA (upd (turnK n m4 64) 83 (flipI (n 83))))) (pos_result Tryd.results22 _ _ _ _ rfl (MV.res.setRow _)) rfl ⟨by rw [hE.out], below_setRow MV.below (by omega) _⟩
        · have D := hideIt (decide_eq_false hp)
          have hE := hideIt (mir_of_head' n m4 HH.out (by have : mirN n 83 = if 0 ≤ n 83 ∧ n 83 < 64 then flipI (n 83) else n 83 := rfl; rw [this, if_neg hp]))
          obtain ⟨i1, r1⟩ := MR.new.rules
          obtain ⟨i2, r2⟩ := MR.res.rules
          clear hp i0 r0
          go_wp2_with (go_at_call 34; refine (bsq_any _ _).mono ?_; rintro e w2 ⟨rfl, rfl⟩; rw [D.out])
          refine bodyPost_ret (v := .agg (posA (turnK n m4 64))) (pos_result Tryd.results22 _ _ _ _ rfl (MR.res.setRow _)) rfl ⟨by rw [hE.out], below_setRow MR.below (by omega) _⟩


end Go.Proofs.YtlobmhhilkmfdaaDoor
