/- The walk of SlidesLess. -/
import Derived.Test.YtnbfgangmkfolaaDoorAw4
import Derived.Test.YtnbfgangmkfolaaDoorY3
import Derived.Test.YtnbfgangmkfolaaDoorB4
namespace Go.Proofs.YtnbfgangmkfolaaDoor
open Go Go.RowKit

set_option maxHeartbeats 1600000 in
theorem slidesLess_walk (a0 : Int) (a1 : Int) (a2 : Int) (_w0 : (Lit.int .i64 a0).wf = true) (w1 : (Lit.int .u64 a1).wf = true) (_w2 : (Lit.int .i64 a2).wf = true) (w : World) (hT : Tab w) :
    Calls Tryd.prog 8 #[.int .i64 a0, .int .u64 a1, .int .i64 a2] w fun e w' => e = .returned (.bool true) ∧ Below w.heap.size w w' := by
  obtain ⟨occ, rfl⟩ := of_wf w1
  have L1 := less1 a0 a2 occ
  have L2 := less2 a0 occ
  have L3 := hideIt (fun t => less3 a0 t a2 occ)
  have L4 := hideIt (less4 a0 a2 occ)
  go_enter Tryd.func8, Tryd.ntmps8
  have hb := Below.refl w.heap.size w
  go_wp2_with fail
  refine (awake_any _ hT).mono ?_
  rintro e w1 ⟨rfl, h1⟩
  have hb := hb.trans (h1.mono hb.size)
  have hT := hT.below h1 (Nat.le_refl _)
  clear h1
  go_wp2_with fail
  refine (squeen_any a0 occ rfl _ hT).mono ?_
  rintro e w2 ⟨rfl, h1⟩
  have hb := hb.trans (h1.mono hb.size)
  have hT := hT.below h1 (Nat.le_refl _)
  clear h1
  go_wp2_with fail
  refine (put_any occ rfl a2 _).mono ?_
  rintro e w3 ⟨rfl, rfl⟩
  go_wp2_with fail
  refine (squeen_any a0 (putB occ a2) rfl _ hT).mono ?_
  rintro e w4 ⟨rfl, h1⟩
  have hb := hb.trans (h1.mono hb.size)
  have hT := hT.below h1 (Nat.le_refl _)
  clear h1
  go_wp2_with fail
  refine (squeen_any a0 0#64 rfl _ hT).mono ?_
  rintro e w5 ⟨rfl, h1⟩
  have hb := hb.trans (h1.mono hb.size)
  have hT := hT.below h1 (Nat.le_refl _)
  clear h1
  go_wp2_with fail
  clear L1 L2
  refine (list_any (queenB a0 occ &&& ~~~queenB a0 (putB occ a2)) rfl _ hT).mono ?_
  rintro e w7 ⟨v, rfl, hown, h1⟩
  have hb := hb.trans (h1.mono hb.size)
  clear h1 hT
  have HM := hideIt (fun k (hk : k < (listB (queenB a0 occ &&& ~~~queenB a0 (putB occ a2))).length) => L3.out _ ((mem_listB _ _).1 (List.getElem_mem hk)))
  have hlen := listB_length (queenB a0 occ &&& ~~~queenB a0 (putB occ a2))
  obtain ⟨l, hl⟩ : ∃ l, listB (queenB a0 occ &&& ~~~queenB a0 (putB occ a2)) = l := ⟨_, rfl⟩
  rw [hl] at hown HM hlen
  clear hl
  rcases hown.form with ⟨rfl, x, c, rfl⟩ | ⟨g, c, rfl, hg0, hg1, hne, hcell, _⟩
  · go_wp2
    refine wp_loop_rounds 1 ?_
    rw [rounds_succ]
    go_wp2_with fail
    refine (has_any (queenB a0 occ) rfl a2 _).mono ?_
    rintro e w8 ⟨rfl, rfl⟩
    go_wp2_with fail
    refine (has_any (queenB a0 (putB occ a2)) rfl a2 _).mono ?_
    rintro e w9 ⟨rfl, rfl⟩
    rw [L4.out]
    go_wp2
    go_ret
    exact ⟨rfl, hb⟩
  · obtain ⟨n, hn⟩ : ∃ n, l.length = n := ⟨_, rfl⟩
    have HN := hideIt hn
    have HC := hideIt hcell
    rw [hn] at hlen ⊢
    clear hn hcell hown hne
    go_wp2
    go_loopw [10] (fun i wr => ∃ k : Nat, k ≤ n ∧ i = .int .i64 k ∧ Below w7.heap.size w7 wr) (fun i _ => n - (intOf i).toNat)
    case atStart => exact ⟨0, by omega, rfl, Below.refl _ _⟩
    case round =>
      obtain ⟨k, hk, rfl, hbel⟩ := hrel
      by_cases hlt : k < n
      · have hlt2 : k < l.length := by rw [HN.out]; exact hlt
        have hc2 : wr.cell? ⟨g, k, none⟩ = some (.int .i64 (l[k])) := by rw [hbel.cell (p := ⟨g, k, none⟩) hg1]; exact HC.out k hlt2
        have HB := hideIt (HM.out k hlt2)
        obtain ⟨y, hy⟩ : ∃ y, l[k] = y := ⟨_, rfl⟩
        rw [hy] at hc2 HB
        clear hy
        go_wp2_with fail
        refine (between_any a0 y _).mono ?_
        rintro e w8 ⟨rfl, h1⟩
        have hbel := hbel.trans (h1.mono hbel.size)
        clear h1
        go_wp2_with fail
        refine (has_any (betB a0 y) rfl a2 _).mono ?_
        rintro e w9 ⟨rfl, rfl⟩
        rw [HB.out]
        go_wp2
        go_roundw
        case rel => exact ⟨k + 1, by omega, by go_num, hbel⟩
        case measure => simp [intOf]; omega
      · have hb := hb.trans (hbel.mono hb.size)
        go_wp2_with fail
        refine (has_any (queenB a0 occ) rfl a2 _).mono ?_
        rintro e w8 ⟨rfl, rfl⟩
        go_wp2_with fail
        refine (has_any (queenB a0 (putB occ a2)) rfl a2 _).mono ?_
        rintro e w9 ⟨rfl, rfl⟩
        rw [L4.out]
        go_wp2
        go_ret
        exact ⟨rfl, hb⟩

end Go.Proofs.YtnbfgangmkfolaaDoor
