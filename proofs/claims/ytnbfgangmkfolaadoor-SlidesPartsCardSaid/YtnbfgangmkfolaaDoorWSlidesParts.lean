/- The walk of SlidesParts. -/
import Derived.Test.YtnbfgangmkfolaaDoorAw4
import Derived.Test.YtnbfgangmkfolaaDoorS1
import Derived.Test.YtnbfgangmkfolaaDoorB4
import Derived.IntWalk
import Derived.Deep.RegionHeld3
namespace Go.Proofs.YtnbfgangmkfolaaDoor
open Go Go.RowKit

theorem keepK {B k : Nat} {w w' : World} {v : Value} (hs : B < w.heap.size) (hc : w.cell? ⟨B, k, none⟩ = some v) (h : Below w.heap.size w w') : w'.cell? ⟨B, k, none⟩ = some v ∧ Below w.heap.size w w' := ⟨(h.cell (p := ⟨B, k, none⟩) hs).trans hc, h⟩
theorem below_drew {n : Nat} {w w' : World} (h : Below n w w') : Below n w w'.drew := below_drewN h 1
theorem below_new {n : Nat} {w w' : World} {o : Obj} (h : Below n w w') (hn : n ≤ w.heap.size) : Below n w (w'.alloc o) := h.alloc (Nat.le_trans hn h.size) o
theorem below_then {w w' w2 : World} (h : Below w.heap.size w w') (h2 : Below w'.heap.size w' w2) : Below w.heap.size w w2 := h.trans (h2.mono h.size)
theorem par_sum {s t : Int} {occ : BitVec 64} (h : hasB (bishB s occ) t = true) : (fileI t + rankI t + fileI s + rankI s).tmod 2 = 0 ∧ 0 ≤ fileI t ∧ fileI t ≤ 7 ∧ 0 ≤ rankI t ∧ rankI t ≤ 7 ∧ 0 ≤ fileI s ∧ fileI s ≤ 7 ∧ 0 ≤ rankI s ∧ rankI s ≤ 7 := by
  have P := par4 s t occ h
  have ht := has_sq h
  have hs : 0 ≤ s ∧ s < 64 := by
    by_cases e : 0 ≤ s ∧ s < 64
    · exact e
    · rw [has_bish, bishR_none e, has_zero] at h; cases h
  have a1 : fileI t = t % 8 := if_pos ht
  have a2 : rankI t = t / 8 := if_pos ht
  have a3 : fileI s = s % 8 := if_pos hs
  have a4 : rankI s = s / 8 := if_pos hs
  rw [beq_iff_eq] at P
  refine ⟨?_, by omega, by omega, by omega, by omega, by omega, by omega, by omega, by omega⟩
  rw [Int.tmod_eq_emod_of_nonneg (by omega)]; exact P

set_option maxHeartbeats 1600000 in
theorem slidesParts_walk (a0 : Int) (a1 : Int) (_w0 : (Lit.int .i64 a0).wf = true) (w1 : (Lit.int .u64 a1).wf = true) (w : World) (hT : Tab w) :
    Calls Tryd.prog 9 #[.int .i64 a0, .int .u64 a1] w fun e w' => e = .returned (.bool true) ∧ Below w.heap.size w w' := by
  obtain ⟨occ, rfl⟩ := of_wf w1
  have P1 := par1 a0 occ
  have P2 := hideIt (par2 a0 occ)
  have P3 := hideIt (fun t => par3 a0 t occ)
  have P4 : Hid (∀ t, hasB (bishB a0 occ) t = true → hasB (bishB a0 occ) t = true) := fun _ h => h
  go_enter Tryd.func9, Tryd.ntmps9
  have hb := Below.refl w.heap.size w
  go_wp2_with fail
  refine (awake_any _ hT).mono ?_
  rintro e w1 ⟨rfl, h1⟩
  have hb := hb.trans (h1.mono hb.size)
  have hT := hT.below h1 (Nat.le_refl _)
  clear h1
  go_wp2_with fail
  refine (srook_any a0 occ rfl _ hT).mono ?_
  rintro e w2 ⟨rfl, h1⟩
  have hb := hb.trans (h1.mono hb.size)
  have hT := hT.below h1 (Nat.le_refl _)
  clear h1
  go_wp2_with fail
  refine (sbish_any a0 occ rfl _ hT).mono ?_
  rintro e w3 ⟨rfl, h1⟩
  have hb := hb.trans (h1.mono hb.size)
  have hT := hT.below h1 (Nat.le_refl _)
  clear h1
  go_wp2_with fail
  refine (squeen_any a0 occ rfl _ hT).mono ?_
  rintro e w4 ⟨rfl, h1⟩
  have hb := hb.trans (h1.mono hb.size)
  have hT := hT.below h1 (Nat.le_refl _)
  clear h1
  rw [show queenB a0 occ = rookB a0 occ ||| bishB a0 occ from rfl]
  go_wp2_with fail
  refine (has_any (rookB a0 occ ||| bishB a0 occ) rfl a0 _).mono ?_
  rintro e w5 ⟨rfl, rfl⟩
  rw [P2.out]
  go_wp2_with fail
  refine (list_any (rookB a0 occ) rfl _ hT).mono ?_
  rintro e w10 ⟨v, rfl, hown, h1⟩
  have hb := hb.trans (h1.mono hb.size)
  have hT := hT.below h1 (Nat.le_refl _)
  clear h1
  have HM := hideIt (fun k (hk : k < (listB (rookB a0 occ)).length) => P3.out _ ((mem_listB _ _).1 (List.getElem_mem hk)))
  have hlen := listB_length (rookB a0 occ)
  obtain ⟨l, hl⟩ : ∃ l, listB (rookB a0 occ) = l := ⟨_, rfl⟩
  rw [hl] at hown HM hlen
  clear hl
  rcases hown.form with ⟨rfl, x, c, rfl⟩ | ⟨g, c, rfl, hg0, hg1, hne, hcell, _⟩
  · go_wp2
    refine wp_loop_rounds 1 ?_
    rw [rounds_succ]
    go_wp2_with fail
    refine (list_any (bishB a0 occ) rfl _ hT).mono ?_
    rintro e w30 ⟨v, rfl, hown, h1⟩
    have hb := hb.trans (h1.mono hb.size)
    have hT := hT.below h1 (Nat.le_refl _)
    clear h1
    have HM := hideIt (fun k (hk : k < (listB (bishB a0 occ)).length) => P4.out _ ((mem_listB _ _).1 (List.getElem_mem hk)))
    have hlen := listB_length (bishB a0 occ)
    obtain ⟨l, hl⟩ : ∃ l, listB (bishB a0 occ) = l := ⟨_, rfl⟩
    rw [hl] at hown HM hlen
    clear hl
    rcases hown.form with ⟨rfl, x, c, rfl⟩ | ⟨g, c, rfl, hg0, hg1, hne, hcell, _⟩
    · go_wp2
      refine wp_loop_rounds 1 ?_
      rw [rounds_succ]
      go_wp2
      go_ret
      exact ⟨rfl, hb⟩
    · obtain ⟨n, hn⟩ : ∃ n, l.length = n := ⟨_, rfl⟩
      have HN := hideIt hn
      have HC := hideIt hcell
      rw [hn] at hlen ⊢
      clear hn hcell hown hne
      go_wp2
      go_loopw [9] (fun i wr => ∃ k : Nat, k ≤ n ∧ i = .int .i64 k ∧ Below w30.heap.size w30 wr) (fun i _ => n - (intOf i).toNat)
      case atStart => exact ⟨0, by omega, rfl, Below.refl _ _⟩
      case round =>
        obtain ⟨k, hk, rfl, hbel⟩ := hrel
        by_cases hlt : k < n
        · have hlt2 : k < l.length := by rw [HN.out]; exact hlt
          have hc2 : wr.cell? ⟨g, k, none⟩ = some (.int .i64 (l[k])) := by rw [hbel.cell (p := ⟨g, k, none⟩) hg1]; exact HC.out k hlt2
          have HB := hideIt (HM.out k hlt2)
          obtain ⟨y, hy⟩ : ∃ y, l[k] = y := ⟨_, rfl⟩
          rw [hy] at hc2 HB
          clear hy
          obtain ⟨z, f0, f1, r0, r1, g0, g1, q0, q1⟩ := par_sum HB.out
          have e1 : IntKind.i64.wrap (fileI y + rankI y) = fileI y + rankI y := IntWalk.i64_in _ (by omega)
          have e2 : IntKind.i64.wrap (fileI y + rankI y + fileI a0) = fileI y + rankI y + fileI a0 := IntWalk.i64_in _ (by omega)
          have e3 : IntKind.i64.wrap (fileI y + rankI y + fileI a0 + rankI a0) = fileI y + rankI y + fileI a0 + rankI a0 := IntWalk.i64_in _ (by omega)
          have hgs := Nat.lt_of_lt_of_le hg1 hbel.size
          clear HB HM HN HC hlt2 P1 f0 f1 r0 r1 g0 g1 q0 q1
          go_wp2
          go_region_held3 (fun W => W.cell? ⟨g, k, none⟩ = some (.int .i64 y) ∧ Below wr.heap.size wr W) ((refine keepK hgs hc2 ?_; repeat (first | exact Below.refl _ _ | assumption | refine below_drew ?_ | refine below_new ?_ (Nat.le_refl _) | refine below_then ?_ (by assumption)))) ((first | (go_at_call 30; refine (sFile_any _ _).mono ?_; rintro e w31 ⟨rfl, h1⟩) | (go_at_call 31; refine (sRank_any _ _).mono ?_; rintro e w31 ⟨rfl, h1⟩)))
          all_goals
            have hq := And.right ‹_ ∧ Below wr.heap.size wr _›
            have hbel := hbel.trans (hq.mono hbel.size)
            clear hq
            go_wp2
            go_roundw
            case rel => exact ⟨k + 1, by omega, by go_num, hbel⟩
            case measure => simp [intOf]; omega
        · have hb := hb.trans (hbel.mono hb.size)
          have hT := hT.below hbel (Nat.le_refl _)
          go_wp2
          go_ret
          exact ⟨rfl, hb⟩
  · obtain ⟨n, hn⟩ : ∃ n, l.length = n := ⟨_, rfl⟩
    have HN := hideIt hn
    have HC := hideIt hcell
    rw [hn] at hlen ⊢
    clear hn hcell hown hne
    go_wp2
    go_loopw [8] (fun i wr => ∃ k : Nat, k ≤ n ∧ i = .int .i64 k ∧ Below w10.heap.size w10 wr) (fun i _ => n - (intOf i).toNat)
    case atStart => exact ⟨0, by omega, rfl, Below.refl _ _⟩
    case round =>
      obtain ⟨k, hk, rfl, hbel⟩ := hrel
      by_cases hlt : k < n
      · have hlt2 : k < l.length := by rw [HN.out]; exact hlt
        have hc2 : wr.cell? ⟨g, k, none⟩ = some (.int .i64 (l[k])) := by rw [hbel.cell (p := ⟨g, k, none⟩) hg1]; exact HC.out k hlt2
        have HB := hideIt (HM.out k hlt2)
        obtain ⟨y, hy⟩ : ∃ y, l[k] = y := ⟨_, rfl⟩
        rw [hy] at hc2 HB
        clear hy
        cases hf : (fileI y != fileI a0) with
        | false =>
          go_wp2_with fail
          refine (sFile_any y _).mono ?_
          rintro e w20 ⟨rfl, h1⟩
          have hc2 := (h1.cell (p := ⟨g, k, none⟩) (Nat.lt_of_lt_of_le hg1 hbel.size)).trans hc2
          have hbel := hbel.trans (h1.mono hbel.size)
          clear h1
          go_wp2_with fail
          refine (sFile_any a0 _).mono ?_
          rintro e w21 ⟨rfl, h1⟩
          have hc2 := (h1.cell (p := ⟨g, k, none⟩) (Nat.lt_of_lt_of_le hg1 hbel.size)).trans hc2
          have hbel := hbel.trans (h1.mono hbel.size)
          clear h1
          go_wp2
          go_roundw
          case rel => exact ⟨k + 1, by omega, by go_num, hbel⟩
          case measure => simp [intOf]; omega
        | true =>
          have hr : (rankI y != rankI a0) = false := by
            rcases HB.out with h | h
            · rw [bne, h] at hf; cases hf
            · rw [bne, h]; rfl
          go_wp2_with fail
          refine (sFile_any y _).mono ?_
          rintro e w20 ⟨rfl, h1⟩
          have hc2 := (h1.cell (p := ⟨g, k, none⟩) (Nat.lt_of_lt_of_le hg1 hbel.size)).trans hc2
          have hbel := hbel.trans (h1.mono hbel.size)
          clear h1
          go_wp2_with fail
          refine (sFile_any a0 _).mono ?_
          rintro e w21 ⟨rfl, h1⟩
          have hc2 := (h1.cell (p := ⟨g, k, none⟩) (Nat.lt_of_lt_of_le hg1 hbel.size)).trans hc2
          have hbel := hbel.trans (h1.mono hbel.size)
          clear h1
          go_wp2_with fail
          refine (sRank_any y _).mono ?_
          rintro e w22 ⟨rfl, h1⟩
          have hc2 := (h1.cell (p := ⟨g, k, none⟩) (Nat.lt_of_lt_of_le hg1 hbel.size)).trans hc2
          have hbel := hbel.trans (h1.mono hbel.size)
          clear h1
          go_wp2_with fail
          refine (sRank_any a0 _).mono ?_
          rintro e w23 ⟨rfl, h1⟩
          have hc2 := (h1.cell (p := ⟨g, k, none⟩) (Nat.lt_of_lt_of_le hg1 hbel.size)).trans hc2
          have hbel := hbel.trans (h1.mono hbel.size)
          clear h1
          go_wp2
          go_roundw
          case rel => exact ⟨k + 1, by omega, by go_num, hbel⟩
          case measure => simp [intOf]; omega
      · have hb := hb.trans (hbel.mono hb.size)
        have hT := hT.below hbel (Nat.le_refl _)
        go_wp2_with fail
        refine (list_any (bishB a0 occ) rfl _ hT).mono ?_
        rintro e w30 ⟨v, rfl, hown, h1⟩
        have hb := hb.trans (h1.mono hb.size)
        have hT := hT.below h1 (Nat.le_refl _)
        clear h1
        have HM := hideIt (fun k (hk : k < (listB (bishB a0 occ)).length) => P4.out _ ((mem_listB _ _).1 (List.getElem_mem hk)))
        have hlen := listB_length (bishB a0 occ)
        obtain ⟨l, hl⟩ : ∃ l, listB (bishB a0 occ) = l := ⟨_, rfl⟩
        rw [hl] at hown HM hlen
        clear hl
        rcases hown.form with ⟨rfl, x, c, rfl⟩ | ⟨g, c, rfl, hg0, hg1, hne, hcell, _⟩
        · go_wp2
          refine wp_loop_rounds 1 ?_
          rw [rounds_succ]
          go_wp2
          go_ret
          exact ⟨rfl, hb⟩
        · obtain ⟨n, hn⟩ : ∃ n, l.length = n := ⟨_, rfl⟩
          have HN := hideIt hn
          have HC := hideIt hcell
          rw [hn] at hlen ⊢
          clear hn hcell hown hne
          go_wp2
          go_loopw [9] (fun i wr => ∃ k : Nat, k ≤ n ∧ i = .int .i64 k ∧ Below w30.heap.size w30 wr) (fun i _ => n - (intOf i).toNat)
          case atStart => exact ⟨0, by omega, rfl, Below.refl _ _⟩
          case round =>
            obtain ⟨k, hk, rfl, hbel⟩ := hrel
            by_cases hlt : k < n
            · have hlt2 : k < l.length := by rw [HN.out]; exact hlt
              have hc2 : wr.cell? ⟨g, k, none⟩ = some (.int .i64 (l[k])) := by rw [hbel.cell (p := ⟨g, k, none⟩) hg1]; exact HC.out k hlt2
              have HB := hideIt (HM.out k hlt2)
              obtain ⟨y, hy⟩ : ∃ y, l[k] = y := ⟨_, rfl⟩
              rw [hy] at hc2 HB
              clear hy
              obtain ⟨z, f0, f1, r0, r1, g0, g1, q0, q1⟩ := par_sum HB.out
              have e1 : IntKind.i64.wrap (fileI y + rankI y) = fileI y + rankI y := IntWalk.i64_in _ (by omega)
              have e2 : IntKind.i64.wrap (fileI y + rankI y + fileI a0) = fileI y + rankI y + fileI a0 := IntWalk.i64_in _ (by omega)
              have e3 : IntKind.i64.wrap (fileI y + rankI y + fileI a0 + rankI a0) = fileI y + rankI y + fileI a0 + rankI a0 := IntWalk.i64_in _ (by omega)
              have hgs := Nat.lt_of_lt_of_le hg1 hbel.size
              clear HB HM HN HC hlt2 P1 f0 f1 r0 r1 g0 g1 q0 q1
              go_wp2
              go_region_held3 (fun W => W.cell? ⟨g, k, none⟩ = some (.int .i64 y) ∧ Below wr.heap.size wr W) ((refine keepK hgs hc2 ?_; repeat (first | exact Below.refl _ _ | assumption | refine below_drew ?_ | refine below_new ?_ (Nat.le_refl _) | refine below_then ?_ (by assumption)))) ((first | (go_at_call 30; refine (sFile_any _ _).mono ?_; rintro e w31 ⟨rfl, h1⟩) | (go_at_call 31; refine (sRank_any _ _).mono ?_; rintro e w31 ⟨rfl, h1⟩)))
              all_goals
                have hq := And.right ‹_ ∧ Below wr.heap.size wr _›
                have hbel := hbel.trans (hq.mono hbel.size)
                clear hq
                go_wp2
                go_roundw
                case rel => exact ⟨k + 1, by omega, by go_num, hbel⟩
                case measure => simp [intOf]; omega
            · have hb := hb.trans (hbel.mono hb.size)
              have hT := hT.below hbel (Nat.le_refl _)
              go_wp2
              go_ret
              exact ⟨rfl, hb⟩

end Go.Proofs.YtnbfgangmkfolaaDoor
