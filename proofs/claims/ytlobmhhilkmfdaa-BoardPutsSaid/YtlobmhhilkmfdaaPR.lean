/- The walk of the reference's Mirror. Lines alike written by gen_rmirror.py. -/
import Derived.Test.YtlobmhhilkmfdaaPM
import Derived.Test.YtlobmhhilkmfdaaR2
import Derived.Test.YtlobmhhilkmfdaaRF
import Derived.RegionTactic
import Derived.ChangeAlike
import Derived.Deep.DeepCutAuto
namespace Go.Proofs.Ytlobmhhilkmfdaa
open Go Go.RowKit

def stN (n : Nat → Int) (c : Nat) (i : Nat) : Int := if 1 ≤ i ∧ i < c ∧ i ≠ 78 ∧ i ≠ 83 then mirN n i else n i
def Stage (w : World) (g : Nat) (n : Nat → Int) (c : Nat) (W : World) : Prop := ∃ m, Mir w g n W m ∧ ∀ i, m i = stN n c i
theorem wf_i8r {x : Int} (h : (Lit.int .i8 x).wf = true) : -128 ≤ x ∧ x ≤ 127 := by
  simp [Lit.wf] at h
  have e1 : IntKind.i8.min = -128 := by decide
  have e2 : IntKind.i8.max = 127 := by decide
  omega
theorem i8_flip_in : ∀ k : Fin 64, IntKind.i8.wrap (IntKind.i8.wrap (8 * IntKind.i8.wrap (7 - IntKind.i8.wrap ((k.val : Int).tdiv 8))) + (k.val : Int) % 8) = flipI (k.val : Int) := by decide +kernel
theorem i8_flip (s : Int) (h0 : 0 ≤ s) (h1 : s < 64) : IntKind.i8.wrap (IntKind.i8.wrap (8 * IntKind.i8.wrap (7 - IntKind.i8.wrap (s.tdiv 8))) + s % 8) = flipI s := by
  have := i8_flip_in ⟨s.toNat, by omega⟩
  simp only [Int.toNat_of_nonneg h0] at this
  exact this
theorem st_board (n : Nat → Int) (i : Nat) : turnK n n 64 i = stN n 65 i := by
  unfold turnK stN
  by_cases h1 : 1 ≤ i ∧ i ≤ 64
  · have : (flipI ((i : Int) - 1)).toNat < 64 := by unfold flipI; omega
    rw [if_pos ⟨h1.1, h1.2, this⟩, if_pos (by omega)]
    unfold mirN
    rw [if_pos h1]
  · rw [if_neg (fun hc => h1 ⟨hc.1, hc.2.1⟩), if_neg (by omega)]
theorem st_end (n m : Nat → Int) (hm : ∀ i, m i = stN n 86 i) (t p : Int) (ht : t = mirN n 78) (hp : p = mirN n 83) : posA (upd (upd m 78 t) 83 p) = posA (mirN n) := by
  apply posA_congr
  intro i _
  unfold upd
  by_cases e : i = 83
  · subst e; rw [if_pos rfl]; exact hp
  · rw [if_neg e]
    by_cases e2 : i = 78
    · subst e2; rw [if_pos rfl]; exact ht
    · rw [if_neg e2, hm]
      unfold stN
      by_cases hr : 1 ≤ i ∧ i < 86
      · rw [if_pos ⟨hr.1, hr.2, e2, e⟩]
      · rw [if_neg (fun h => hr ⟨h.1, h.2.1⟩)]
        unfold mirN
        repeat (rw [if_neg (by omega)])
theorem upd_same (m : Nat → Int) (i : Nat) (x : Int) (h : m i = x) : upd m i x = m := by
  funext j; unfold upd
  by_cases e : j = i
  · subst e; rw [if_pos rfl]; exact h.symm
  · rw [if_neg e]
theorem st_66 (n m : Nat → Int) (hm : ∀ i, m i = stN n 66 i) : ∀ i, (upd (upd (upd (upd (upd (upd (upd (upd (upd (upd (upd (upd m 66 (n 72)) 67 (n 73)) 68 (n 74)) 69 (n 75)) 70 (n 76)) 71 (n 77)) 72 (n 66)) 73 (n 67)) 74 (n 68)) 75 (n 69)) 76 (n 70)) 77 (n 71)) i = stN n 78 i := by
  intro i
  by_cases hi : 66 ≤ i ∧ i ≤ 77
  · have hc : i = 66 ∨ i = 67 ∨ i = 68 ∨ i = 69 ∨ i = 70 ∨ i = 71 ∨ i = 72 ∨ i = 73 ∨ i = 74 ∨ i = 75 ∨ i = 76 ∨ i = 77 := by omega
    rcases hc with rfl | rfl | rfl | rfl | rfl | rfl | rfl | rfl | rfl | rfl | rfl | rfl <;> simp [upd, stN, mirN]
  · have e0 : stN n 78 i = stN n 66 i := by
      unfold stN
      by_cases h1 : 1 ≤ i ∧ i < 66 ∧ i ≠ 78 ∧ i ≠ 83
      · rw [if_pos h1, if_pos (by omega)]
      · rw [if_neg h1, if_neg (by omega)]
    rw [e0, ← hm i]
    simp only [upd]
    repeat (rw [if_neg (by omega)])
theorem st_78 (n m : Nat → Int) (hm : ∀ i, m i = stN n 78 i) : ∀ i, (upd (upd (upd (upd m 79 (n 81)) 80 (n 82)) 81 (n 79)) 82 (n 80)) i = stN n 83 i := by
  intro i
  by_cases hi : 79 ≤ i ∧ i ≤ 82
  · have hc : i = 79 ∨ i = 80 ∨ i = 81 ∨ i = 82 := by omega
    rcases hc with rfl | rfl | rfl | rfl <;> simp [upd, stN, mirN]
  · have e0 : stN n 83 i = stN n 78 i := by
      unfold stN
      by_cases h1 : 1 ≤ i ∧ i < 78 ∧ i ≠ 78 ∧ i ≠ 83
      · rw [if_pos h1, if_pos (by omega)]
      · rw [if_neg h1, if_neg (by omega)]
    rw [e0, ← hm i]
    simp only [upd]
    repeat (rw [if_neg (by omega)])
theorem st_83 (n m : Nat → Int) (hm : ∀ i, m i = stN n 83 i) : ∀ i, (upd (upd m 84 (n 85)) 85 (n 84)) i = stN n 86 i := by
  intro i
  by_cases hi : 84 ≤ i ∧ i ≤ 85
  · have hc : i = 84 ∨ i = 85 := by omega
    rcases hc with rfl | rfl <;> simp [upd, stN, mirN]
  · have e0 : stN n 86 i = stN n 83 i := by
      unfold stN
      by_cases h1 : 1 ≤ i ∧ i < 83 ∧ i ≠ 78 ∧ i ≠ 83
      · rw [if_pos h1, if_pos (by omega)]
      · rw [if_neg h1, if_neg (by omega)]
    rw [e0, ← hm i]
    simp only [upd]
    repeat (rw [if_neg (by omega)])
theorem st_65 (n m : Nat → Int) (b : BitVec 64) (hb : n 65 = u b) (hm : ∀ i, m i = stN n 65 i) : ∀ i, upd m 65 (u (flipB b)) i = stN n 66 i := by
  intro i
  by_cases hi : 65 ≤ i ∧ i ≤ 65
  · have hc : i = 65 := by omega
    subst hc; simp [upd, stN, mirN, hb, bits_u]
  · have e0 : stN n 66 i = stN n 65 i := by
      unfold stN
      by_cases h1 : 1 ≤ i ∧ i < 65 ∧ i ≠ 78 ∧ i ≠ 83
      · rw [if_pos h1, if_pos (by omega)]
      · rw [if_neg h1, if_neg (by omega)]
    rw [e0, ← hm i]
    simp only [upd]
    repeat (rw [if_neg (by omega)])

set_option maxRecDepth 100000 in
set_option maxHeartbeats 8000000 in
theorem rmirror_any (n : Nat → Int) (hn : PosOk n) (w : World) :
    Calls Try.prog 7 #[.agg (posA n)] w fun e w' => e = .returned (.agg (posA (mirN n))) ∧ Below w.heap.size w w' := by
  obtain ⟨b, hb65⟩ := of_wf (hn 65 (by decide))
  obtain ⟨X, hX⟩ : ∃ X, (w.alloc (.cells (posA n) 31)).alloc (.cells (posA zeroN) 31) = X := ⟨_, rfl⟩
  obtain ⟨Y, hY⟩ : ∃ Y, (X.alloc (.cells (posA zeroN) 31)).setRow X.heap.size (posA n) = Y := ⟨_, rfl⟩
  have M := Mir.begin hX hY
  obtain ⟨p0, p1, hb⟩ := box2 w n zeroN X hX
  obtain ⟨i0, r0⟩ := p0.rules
  generalize hg : X.heap.size = g at M
  have hgX := hideIt hg
  have HX := hideIt hX
  have HY := hideIt hY
  have hzp := zeroPos
  have HB65 := hideIt hb65
  clear hX hY hg hb65
  go_enter Try.func7, Try.ntmps7
  go_wp2_with (first | rw [HX.out] | rw [HY.out, hgX.out])
  clear i0 r0 p0 p1 hb
  go_loopw [4] (fun i wr => ∃ k : Nat, k ≤ 64 ∧ i = .int .i64 k ∧ Mir w g n wr (turnK n n k)) (fun i _ => 64 - (intOf i).toNat)
  case atStart => exact ⟨0, by omega, rfl, by rw [turnK_zero]; exact M⟩
  case round =>
    obtain ⟨k, hk, rfl, MR⟩ := hrel
    by_cases hlt : k < 64
    · have hfl : 0 ≤ flipI (k : Int) ∧ flipI (k : Int) < 64 := by unfold flipI; omega
      have hx : 8 * (7 - (k : Int) / 8) + (k : Int) % 8 = flipI (k : Int) := rfl
      have TK := hideIt (turnK_succ n n k hlt)
      have KB := hideIt (kind_board (show 1 + (flipI (k : Int)).toNat ≤ 64 by omega))
      have a1 := MR.own.board (1 + k) (by omega)
      obtain ⟨q0, q1⟩ := hfl
      generalize flipI (k : Int) = z at *
      go_wp2_with fail
      refine (rother_any (n (1 + k)) _).mono ?_
      rintro e w2 ⟨rfl, h1⟩
      have MR := MR.then h1
      clear h1 a1
      have MN := MR.set (1 + z.toNat) (othI (n (1 + k))) (k := .u8) KB.out.symm
      rw [TK.out] at MN
      have a2 := MR.new.board (1 + z.toNat) (by omega)
      have a3 := MR.new.free (1 + z.toNat)
      go_wp2
      go_roundw
      case rel => exact ⟨k + 1, by omega, by go_num, MN⟩
      case measure => simp [intOf]; omega
    · obtain rfl : k = 64 := by omega
      clear M
      have c65 : wr.cell? ⟨w.heap.size, 65, none⟩ = some (.int .u64 (u b)) := by rw [← HB65.out]; exact MR.own.cell 65 (by decide)
      go_wp2_with fail
      refine (rflip_any b rfl _).mono ?_
      rintro e w2 ⟨rfl, h1⟩
      have MR := MR.then h1
      clear h1 c65
      have hm := st_board n
      generalize turnK n n 64 = m at MR hm
      have S66 := MR.set 65 (u (flipB b)) (k := .u64) rfl
      have g_65 : w2.cell? ⟨g, 65, none⟩ = some (.int .u64 (m 65)) := MR.new.cell 65 (by decide)
      have f_65 := MR.new.free 65
      obtain ⟨V, hV⟩ : ∃ V, w2.setCell ⟨g, 65, none⟩ (.int .u64 (u (flipB b))) = V := ⟨_, rfl⟩
      rw [hV] at S66
      have HV := hideIt hV
      have st : Stage w g n 66 V := ⟨_, S66, st_65 n m b HB65.out hm⟩
      clear hV S66 hm MR
      go_upto_region 7 with (rw [HV.out])
      clear g_65 f_65 HV
      go_cut [] (fun wx => Stage w g n 78 wx)
      case first =>
        obtain ⟨m, MS, hm⟩ := st
        have o_66 : V.cell? ⟨w.heap.size, 66, none⟩ = some (.int .u8 (n 66)) := MS.own.cell 66 (by decide)
        have o_67 : V.cell? ⟨w.heap.size, 67, none⟩ = some (.int .u8 (n 67)) := MS.own.cell 67 (by decide)
        have o_68 : V.cell? ⟨w.heap.size, 68, none⟩ = some (.int .u8 (n 68)) := MS.own.cell 68 (by decide)
        have o_69 : V.cell? ⟨w.heap.size, 69, none⟩ = some (.int .u8 (n 69)) := MS.own.cell 69 (by decide)
        have o_70 : V.cell? ⟨w.heap.size, 70, none⟩ = some (.int .u8 (n 70)) := MS.own.cell 70 (by decide)
        have o_71 : V.cell? ⟨w.heap.size, 71, none⟩ = some (.int .u8 (n 71)) := MS.own.cell 71 (by decide)
        have o_72 : V.cell? ⟨w.heap.size, 72, none⟩ = some (.int .u8 (n 72)) := MS.own.cell 72 (by decide)
        have o_73 : V.cell? ⟨w.heap.size, 73, none⟩ = some (.int .u8 (n 73)) := MS.own.cell 73 (by decide)
        have o_74 : V.cell? ⟨w.heap.size, 74, none⟩ = some (.int .u8 (n 74)) := MS.own.cell 74 (by decide)
        have o_75 : V.cell? ⟨w.heap.size, 75, none⟩ = some (.int .u8 (n 75)) := MS.own.cell 75 (by decide)
        have o_76 : V.cell? ⟨w.heap.size, 76, none⟩ = some (.int .u8 (n 76)) := MS.own.cell 76 (by decide)
        have o_77 : V.cell? ⟨w.heap.size, 77, none⟩ = some (.int .u8 (n 77)) := MS.own.cell 77 (by decide)
        have g_66 : V.cell? ⟨g, 66, none⟩ = some (.int .u8 (m 66)) := MS.new.cell 66 (by decide)
        have f_66 := MS.new.free 66
        have g_67 : V.cell? ⟨g, 67, none⟩ = some (.int .u8 (m 67)) := MS.new.cell 67 (by decide)
        have f_67 := MS.new.free 67
        have g_68 : V.cell? ⟨g, 68, none⟩ = some (.int .u8 (m 68)) := MS.new.cell 68 (by decide)
        have f_68 := MS.new.free 68
        have g_69 : V.cell? ⟨g, 69, none⟩ = some (.int .u8 (m 69)) := MS.new.cell 69 (by decide)
        have f_69 := MS.new.free 69
        have g_70 : V.cell? ⟨g, 70, none⟩ = some (.int .u8 (m 70)) := MS.new.cell 70 (by decide)
        have f_70 := MS.new.free 70
        have g_71 : V.cell? ⟨g, 71, none⟩ = some (.int .u8 (m 71)) := MS.new.cell 71 (by decide)
        have f_71 := MS.new.free 71
        have g_72 : V.cell? ⟨g, 72, none⟩ = some (.int .u8 (m 72)) := MS.new.cell 72 (by decide)
        have f_72 := MS.new.free 72
        have g_73 : V.cell? ⟨g, 73, none⟩ = some (.int .u8 (m 73)) := MS.new.cell 73 (by decide)
        have f_73 := MS.new.free 73
        have g_74 : V.cell? ⟨g, 74, none⟩ = some (.int .u8 (m 74)) := MS.new.cell 74 (by decide)
        have f_74 := MS.new.free 74
        have g_75 : V.cell? ⟨g, 75, none⟩ = some (.int .u8 (m 75)) := MS.new.cell 75 (by decide)
        have f_75 := MS.new.free 75
        have g_76 : V.cell? ⟨g, 76, none⟩ = some (.int .u8 (m 76)) := MS.new.cell 76 (by decide)
        have f_76 := MS.new.free 76
        have g_77 : V.cell? ⟨g, 77, none⟩ = some (.int .u8 (m 77)) := MS.new.cell 77 (by decide)
        have f_77 := MS.new.free 77
        have n1 : ¬ g = w.heap.size := by have := MS.far; omega
        have n2 : ¬ w.heap.size = g := by have := MS.far; omega
        go_region
        all_goals
          go_wp2_with fail
          go_meet
          exact ⟨_, ((((((((((((MS.set 66 (n 72) (k := .u8) rfl).set 67 (n 73) (k := .u8) rfl).set 68 (n 74) (k := .u8) rfl).set 69 (n 75) (k := .u8) rfl).set 70 (n 76) (k := .u8) rfl).set 71 (n 77) (k := .u8) rfl).set 72 (n 66) (k := .u8) rfl).set 73 (n 67) (k := .u8) rfl).set 74 (n 68) (k := .u8) rfl).set 75 (n 69) (k := .u8) rfl).set 76 (n 70) (k := .u8) rfl).set 77 (n 71) (k := .u8) rfl).drew, st_66 n m hm⟩
      case rest =>
        clear st
        have st := hcut
        clear hcut
        go_upto_region 8 with fail
        go_cut [] (fun wx => Stage w g n 83 wx)
        case first =>
          obtain ⟨m, MS, hm⟩ := st
          have o_79 : wc.cell? ⟨w.heap.size, 79, none⟩ = some (.int .i8 (n 79)) := MS.own.cell 79 (by decide)
          have o_80 : wc.cell? ⟨w.heap.size, 80, none⟩ = some (.int .i8 (n 80)) := MS.own.cell 80 (by decide)
          have o_81 : wc.cell? ⟨w.heap.size, 81, none⟩ = some (.int .i8 (n 81)) := MS.own.cell 81 (by decide)
          have o_82 : wc.cell? ⟨w.heap.size, 82, none⟩ = some (.int .i8 (n 82)) := MS.own.cell 82 (by decide)
          have g_79 : wc.cell? ⟨g, 79, none⟩ = some (.int .i8 (m 79)) := MS.new.cell 79 (by decide)
          have f_79 := MS.new.free 79
          have g_80 : wc.cell? ⟨g, 80, none⟩ = some (.int .i8 (m 80)) := MS.new.cell 80 (by decide)
          have f_80 := MS.new.free 80
          have g_81 : wc.cell? ⟨g, 81, none⟩ = some (.int .i8 (m 81)) := MS.new.cell 81 (by decide)
          have f_81 := MS.new.free 81
          have g_82 : wc.cell? ⟨g, 82, none⟩ = some (.int .i8 (m 82)) := MS.new.cell 82 (by decide)
          have f_82 := MS.new.free 82
          have n1 : ¬ g = w.heap.size := by have := MS.far; omega
          have n2 : ¬ w.heap.size = g := by have := MS.far; omega
          go_region
          all_goals
            go_wp2_with fail
            go_meet
            exact ⟨_, ((((MS.set 79 (n 81) (k := .i8) rfl).set 80 (n 82) (k := .i8) rfl).set 81 (n 79) (k := .i8) rfl).set 82 (n 80) (k := .i8) rfl).drew, st_78 n m hm⟩
        case rest =>
          clear st
          have st := hcut
          clear hcut
          go_upto_region 9 with fail
          go_cut [] (fun wx => Stage w g n 86 wx)
          case first =>
            obtain ⟨m, MS, hm⟩ := st
            have o_84 : wc.cell? ⟨w.heap.size, 84, none⟩ = some (.int .u8 (n 84)) := MS.own.cell 84 (by decide)
            have o_85 : wc.cell? ⟨w.heap.size, 85, none⟩ = some (.int .u8 (n 85)) := MS.own.cell 85 (by decide)
            have g_84 : wc.cell? ⟨g, 84, none⟩ = some (.int .u8 (m 84)) := MS.new.cell 84 (by decide)
            have f_84 := MS.new.free 84
            have g_85 : wc.cell? ⟨g, 85, none⟩ = some (.int .u8 (m 85)) := MS.new.cell 85 (by decide)
            have f_85 := MS.new.free 85
            have n1 : ¬ g = w.heap.size := by have := MS.far; omega
            have n2 : ¬ w.heap.size = g := by have := MS.far; omega
            go_region
            all_goals
              go_wp2_with fail
              go_meet
              exact ⟨_, ((MS.set 84 (n 85) (k := .u8) rfl).set 85 (n 84) (k := .u8) rfl).drew, st_83 n m hm⟩
          case rest =>
            clear st
            have st := hcut
            clear hcut
            obtain ⟨m, MS, hm⟩ := st
            have t0 := (wf_u8 (hn 78 (by decide))).1
            have t1 := (wf_u8 (hn 78 (by decide))).2
            have b0 := (wf_i8r (hn 83 (by decide))).1
            have b1 := (wf_i8r (hn 83 (by decide))).2
            have n1 : ¬ g = w.heap.size := by have := MS.far; omega
            have n2 : ¬ w.heap.size = g := by have := MS.far; omega
            have o_78 : wc.cell? ⟨w.heap.size, 78, none⟩ = some (.int .u8 (n 78)) := MS.own.cell 78 (by decide)
            have o_83 : wc.cell? ⟨w.heap.size, 83, none⟩ = some (.int .i8 (n 83)) := MS.own.cell 83 (by decide)
            have g_78 : wc.cell? ⟨g, 78, none⟩ = some (.int .u8 (m 78)) := MS.new.cell 78 (by decide)
            have f_78 := MS.new.free 78
            have m78 : m 78 = n 78 := by rw [hm]; rfl
            have m83 : m 83 = n 83 := by rw [hm]; rfl
            obtain ⟨t, ht⟩ : ∃ t, t = mirN n 78 := ⟨_, rfl⟩
            obtain ⟨V2, hV2⟩ : ∃ V, (if n 78 ≤ 1 then wc.setCell ⟨g, 78, none⟩ (.int .u8 t) else wc) = V := ⟨_, rfl⟩
            have M2 : Mir w g n V2 (upd m 78 t) := by
              rw [← hV2]
              split
              · exact MS.set 78 t (k := .u8) rfl
              · rename_i hc
                rw [upd_same m 78 t (by rw [m78, ht]; have : mirN n 78 = if n 78 = 0 then 1 else if n 78 = 1 then 0 else n 78 := rfl; rw [this, if_neg (by omega), if_neg (by omega)])]
                exact MS
            have u83 : V2.cell? ⟨w.heap.size, 83, none⟩ = some (.int .i8 (n 83)) := M2.own.cell 83 (by decide)
            have v83 : V2.cell? ⟨g, 83, none⟩ = some (.int .i8 (n 83)) := by rw [← m83]; exact M2.new.cell 83 (by decide)
            have z83 := M2.new.free 83
            obtain ⟨p, hp⟩ : ∃ p, p = mirN n 83 := ⟨_, rfl⟩
            obtain ⟨V3, hV3⟩ : ∃ V, (if 0 ≤ n 83 ∧ n 83 < 64 then V2.setCell ⟨g, 83, none⟩ (.int .i8 p) else V2) = V := ⟨_, rfl⟩
            have M3 : Mir w g n V3 (upd (upd m 78 t) 83 p) := by
              rw [← hV3]
              split
              · exact M2.set 83 p (k := .i8) rfl
              · rename_i hc
                rw [upd_same _ 83 p (by rw [hp]; have : mirN n 83 = if 0 ≤ n 83 ∧ n 83 < 64 then flipI (n 83) else n 83 := rfl; rw [this, if_neg hc]; exact m83)]
                exact M2
            obtain ⟨i1, r1⟩ := M3.new.rules
            obtain ⟨i2, r2⟩ := M3.res.rules
            have E := hideIt (st_end n m hm t p ht hp)
            have hpp : p = (if 0 ≤ n 83 ∧ n 83 < 64 then flipI (n 83) else n 83) := hp
            have htt : t = (if n 78 = 0 then 1 else if n 78 = 1 then 0 else n 78) := ht
            clear hp ht hm m78 m83
            have ct : n 78 = 0 ∨ n 78 = 1 ∨ 1 < n 78 := by omega
            have cp : (0 ≤ n 83 ∧ n 83 < 64) ∨ n 83 < 0 ∨ (0 ≤ n 83 ∧ 64 ≤ n 83) := by omega
            rcases ct with ht0 | ht0 | ht0
            · rcases cp with hp0 | hp0 | hp0
              · have tt : t = 1 := by rw [htt, if_pos ht0]
                have e1 : (n 78 == 0) = true := by rw [ht0]; rfl
                have e2 : (n 78 == 1) = false := by rw [ht0]; rfl
                rw [if_pos (by omega)] at hV2
                have q0 := hp0.1
                have q1 := hp0.2
                have pp : p = IntKind.i8.wrap (IntKind.i8.wrap (8 * IntKind.i8.wrap (7 - IntKind.i8.wrap ((n 83).tdiv 8))) + n 83 % 8) := by rw [hpp, if_pos hp0]; exact (i8_flip _ hp0.1 hp0.2).symm
                rw [if_pos hp0] at hV3
                clear hp0
                rw [tt] at hV2
                rw [pp] at hV3
                have HV2 := hideIt hV2
                have HV3 := hideIt hV3
                clear hV2 hV3 htt hpp ht0 tt pp
                go_wp2_with (first | rw [HV2.out] | rw [HV3.out])
                refine bodyPost_ret (v := .agg (posA (upd (upd m 78 t) 83 p))) (pos_result Try.results7 _ _ _ _ rfl (M3.res.setRow _)) rfl ⟨by rw [E.out], below_setRow M3.below (by omega) _⟩
              · have tt : t = 1 := by rw [htt, if_pos ht0]
                have e1 : (n 78 == 0) = true := by rw [ht0]; rfl
                have e2 : (n 78 == 1) = false := by rw [ht0]; rfl
                rw [if_pos (by omega)] at hV2
                rw [if_neg (by omega)] at hV3
                rw [tt] at hV2
                have HV2 := hideIt hV2
                have HV3 := hideIt hV3
                clear hV2 hV3 htt hpp ht0 tt
                have hsub2 := HV3.out
                subst hsub2
                go_wp2_with (first | rw [HV2.out])
                refine bodyPost_ret (v := .agg (posA (upd (upd m 78 t) 83 p))) (pos_result Try.results7 _ _ _ _ rfl (M3.res.setRow _)) rfl ⟨by rw [E.out], below_setRow M3.below (by omega) _⟩
              · have tt : t = 1 := by rw [htt, if_pos ht0]
                have e1 : (n 78 == 0) = true := by rw [ht0]; rfl
                have e2 : (n 78 == 1) = false := by rw [ht0]; rfl
                rw [if_pos (by omega)] at hV2
                obtain ⟨q0, q1⟩ := hp0
                have e3 : decide (n 83 < 64) = false := decide_eq_false (by omega)
                rw [if_neg (by omega)] at hV3
                rw [tt] at hV2
                have HV2 := hideIt hV2
                have HV3 := hideIt hV3
                clear hV2 hV3 htt hpp ht0 tt
                have hsub2 := HV3.out
                subst hsub2
                go_wp2_with (first | rw [HV2.out])
                refine bodyPost_ret (v := .agg (posA (upd (upd m 78 t) 83 p))) (pos_result Try.results7 _ _ _ _ rfl (M3.res.setRow _)) rfl ⟨by rw [E.out], below_setRow M3.below (by omega) _⟩
            · rcases cp with hp0 | hp0 | hp0
              · have tt : t = 0 := by rw [htt, if_neg (by omega), if_pos ht0]
                have e1 : (n 78 == 0) = false := by rw [ht0]; rfl
                have e2 : (n 78 == 1) = true := by rw [ht0]; rfl
                rw [if_pos (by omega)] at hV2
                have q0 := hp0.1
                have q1 := hp0.2
                have pp : p = IntKind.i8.wrap (IntKind.i8.wrap (8 * IntKind.i8.wrap (7 - IntKind.i8.wrap ((n 83).tdiv 8))) + n 83 % 8) := by rw [hpp, if_pos hp0]; exact (i8_flip _ hp0.1 hp0.2).symm
                rw [if_pos hp0] at hV3
                clear hp0
                rw [tt] at hV2
                rw [pp] at hV3
                have HV2 := hideIt hV2
                have HV3 := hideIt hV3
                clear hV2 hV3 htt hpp ht0 tt pp
                go_wp2_with (first | rw [HV2.out] | rw [HV3.out])
                refine bodyPost_ret (v := .agg (posA (upd (upd m 78 t) 83 p))) (pos_result Try.results7 _ _ _ _ rfl (M3.res.setRow _)) rfl ⟨by rw [E.out], below_setRow M3.below (by omega) _⟩
              · have tt : t = 0 := by rw [htt, if_neg (by omega), if_pos ht0]
                have e1 : (n 78 == 0) = false := by rw [ht0]; rfl
                have e2 : (n 78 == 1) = true := by rw [ht0]; rfl
                rw [if_pos (by omega)] at hV2
                rw [if_neg (by omega)] at hV3
                rw [tt] at hV2
                have HV2 := hideIt hV2
                have HV3 := hideIt hV3
                clear hV2 hV3 htt hpp ht0 tt
                have hsub2 := HV3.out
                subst hsub2
                go_wp2_with (first | rw [HV2.out])
                refine bodyPost_ret (v := .agg (posA (upd (upd m 78 t) 83 p))) (pos_result Try.results7 _ _ _ _ rfl (M3.res.setRow _)) rfl ⟨by rw [E.out], below_setRow M3.below (by omega) _⟩
              · have tt : t = 0 := by rw [htt, if_neg (by omega), if_pos ht0]
                have e1 : (n 78 == 0) = false := by rw [ht0]; rfl
                have e2 : (n 78 == 1) = true := by rw [ht0]; rfl
                rw [if_pos (by omega)] at hV2
                obtain ⟨q0, q1⟩ := hp0
                have e3 : decide (n 83 < 64) = false := decide_eq_false (by omega)
                rw [if_neg (by omega)] at hV3
                rw [tt] at hV2
                have HV2 := hideIt hV2
                have HV3 := hideIt hV3
                clear hV2 hV3 htt hpp ht0 tt
                have hsub2 := HV3.out
                subst hsub2
                go_wp2_with (first | rw [HV2.out])
                refine bodyPost_ret (v := .agg (posA (upd (upd m 78 t) 83 p))) (pos_result Try.results7 _ _ _ _ rfl (M3.res.setRow _)) rfl ⟨by rw [E.out], below_setRow M3.below (by omega) _⟩
            · rcases cp with hp0 | hp0 | hp0
              · have e1 : (n 78 == 0) = false := by rw [beq_eq_false_iff_ne]; omega
                have e2 : (n 78 == 1) = false := by rw [beq_eq_false_iff_ne]; omega
                rw [if_neg (by omega)] at hV2
                have q0 := hp0.1
                have q1 := hp0.2
                have pp : p = IntKind.i8.wrap (IntKind.i8.wrap (8 * IntKind.i8.wrap (7 - IntKind.i8.wrap ((n 83).tdiv 8))) + n 83 % 8) := by rw [hpp, if_pos hp0]; exact (i8_flip _ hp0.1 hp0.2).symm
                rw [if_pos hp0] at hV3
                clear hp0
                rw [pp] at hV3
                have HV2 := hideIt hV2
                have HV3 := hideIt hV3
                clear hV2 hV3 htt hpp ht0 pp
                have hsub := HV2.out
                subst hsub
                go_wp2_with (first | rw [HV3.out])
                refine bodyPost_ret (v := .agg (posA (upd (upd m 78 t) 83 p))) (pos_result Try.results7 _ _ _ _ rfl (M3.res.setRow _)) rfl ⟨by rw [E.out], below_setRow M3.below (by omega) _⟩
              · have e1 : (n 78 == 0) = false := by rw [beq_eq_false_iff_ne]; omega
                have e2 : (n 78 == 1) = false := by rw [beq_eq_false_iff_ne]; omega
                rw [if_neg (by omega)] at hV2
                rw [if_neg (by omega)] at hV3
                have HV2 := hideIt hV2
                have HV3 := hideIt hV3
                clear hV2 hV3 htt hpp ht0
                have hsub := HV2.out
                subst hsub
                have hsub2 := HV3.out
                subst hsub2
                go_wp2_with fail
                refine bodyPost_ret (v := .agg (posA (upd (upd m 78 t) 83 p))) (pos_result Try.results7 _ _ _ _ rfl (M3.res.setRow _)) rfl ⟨by rw [E.out], below_setRow M3.below (by omega) _⟩
              · have e1 : (n 78 == 0) = false := by rw [beq_eq_false_iff_ne]; omega
                have e2 : (n 78 == 1) = false := by rw [beq_eq_false_iff_ne]; omega
                rw [if_neg (by omega)] at hV2
                obtain ⟨q0, q1⟩ := hp0
                have e3 : decide (n 83 < 64) = false := decide_eq_false (by omega)
                rw [if_neg (by omega)] at hV3
                have HV2 := hideIt hV2
                have HV3 := hideIt hV3
                clear hV2 hV3 htt hpp ht0
                have hsub := HV2.out
                subst hsub
                have hsub2 := HV3.out
                subst hsub2
                go_wp2_with fail
                refine bodyPost_ret (v := .agg (posA (upd (upd m 78 t) 83 p))) (pos_result Try.results7 _ _ _ _ rfl (M3.res.setRow _)) rfl ⟨by rw [E.out], below_setRow M3.below (by omega) _⟩

end Go.Proofs.Ytlobmhhilkmfdaa
