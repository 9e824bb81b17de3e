/- The walk of BitsAll. -/
import Derived.Test.YtndijfckmokgbaaDoorAw1
import Derived.Test.YtndijfckmokgbaaDoorBv
import Derived.Test.YtndijfckmokgbaaDoorU4
namespace Go.Proofs.YtndijfckmokgbaaDoor
open Go Go.RowKit

set_option maxHeartbeats 1600000 in
theorem bitsAll_walk (a0 : Int) (w0 : (Lit.int .u64 a0).wf = true) (w : World) (hT : Tab w) :
    Calls Tryd.prog 4 #[.int .u64 a0] w fun e w' => e = .returned (.bool true) ∧ Below w.heap.size w w' := by
  obtain ⟨b, rfl⟩ := of_wf w0
  obtain ⟨l, hl, hlen, hf, hr, hc, hh, _⟩ := list_facts b
  have HL := hideIt hl
  have HF := hideIt hf
  have HR := hideIt hr
  have HC := hideIt hc
  have HH := hideIt hh
  clear hl hf hr hc hh
  go_enter Tryd.func4, Tryd.ntmps4
  go_wp2_with fail
  refine (awake_any _ hT).mono ?_
  rintro e w1 ⟨rfl, h1⟩
  go_wp2_with fail
  refine (list_v b l HL.out _ (hT.below h1 (Nat.le_refl _))).mono ?_
  rintro e w2 ⟨v, rfl, hown, h2⟩
  have hb := h1.trans (h2.mono h1.size)
  clear h1 h2
  have HT := hideIt (hT.below hb (Nat.le_refl _))
  rcases hown.form with ⟨hl, x, c, rfl⟩ | ⟨g, c, rfl, hg0, hg1, hne, hcell, _⟩
  · have hb0 : b = 0#64 := by rw [← HF.out, hl]; rfl
    subst hb0
    subst hl
    have h00 : (0 == u 0#64) = true := rfl
    have HC0 := hideIt (show cntB 0#64 = 0 from by decide)
    go_wp2
    refine wp_loop_rounds 1 ?_
    rw [rounds_succ]
    go_wp2
    go_quiet ((go_at_call 12; exact quietEq (count_v 0#64 0 HC0.out _)))
    go_wp2
    go_ret
    exact ⟨rfl, below_drewN hb _⟩
  · have hl0 : ((l.length : Int) == 0) = false := by
      rw [beq_eq_false_iff_ne]; intro e; apply hne; exact List.length_eq_zero_iff.1 (by omega)
    have hl1 : 0 < l.length := by
      rcases Nat.eq_zero_or_pos l.length with e | e
      · exact absurd (List.length_eq_zero_iff.1 e) hne
      · exact e
    go_wp2
    go_loopw [4, 5] (fun x i wr => ∃ j : Nat, j ≤ l.length ∧ i = .int .i64 j ∧ x = .int .u64 (u (foldPut (fun s => s) (l.take j))) ∧ Below w2.heap.size w2 wr) (fun _ i _ => l.length - (intOf i).toNat)
    case atStart => exact ⟨0, by omega, rfl, rfl, Below.refl _ _⟩
    case round =>
      obtain ⟨j, hj, rfl, rfl, hbel⟩ := hrel
      by_cases hlt : j < l.length
      · have hx : wr.cell? ⟨g, j, none⟩ = some (.int .i64 (l[j])) := (hbel.cell (p := ⟨g, j, none⟩) hg1).trans (hcell j hlt)
        have HS := hideIt (foldPut_take (fun s => s) l j hlt)
        by_cases hj0 : 0 < j
        · obtain ⟨m, rfl⟩ : ∃ m, j = m + 1 := ⟨j - 1, by omega⟩
          have hy : wr.cell? ⟨g, m, none⟩ = some (.int .i64 (l[m])) := (hbel.cell (p := ⟨g, m, none⟩) hg1).trans (hcell m (by omega))
          have hxy := HR.out m (m + 1) (by omega) hlt
          generalize l[m + 1] = x at *
          generalize l[m] = y at *
          clear hcell
          go_wp2
          go_quiet (fail)
          go_wp2_with fail
          refine (put_any _ rfl _ _).mono ?_
          rintro e w' ⟨rfl, rfl⟩
          go_wp2
          go_roundw
          case rel => exact ⟨m + 1 + 1, by omega, by go_num, by rw [HS.out], below_drewN hbel _⟩
          case measure => simp [intOf]; omega
        · obtain rfl : j = 0 := by omega
          generalize l[0] = x at *
          clear hcell
          go_wp2
          go_quiet (fail)
          go_wp2_with fail
          refine (put_any _ rfl _ _).mono ?_
          rintro e w' ⟨rfl, rfl⟩
          go_wp2
          go_roundw
          case rel => exact ⟨1, by omega, by go_num, by rw [HS.out, List.take_zero], below_drewN hbel _⟩
          case measure => simp [intOf]; omega
      · obtain rfl : j = l.length := by omega
        have hEq : (u (foldPut (fun s => s) l) == u b) = true := by rw [HF.out]; simp
        have hx0 : wr.cell? ⟨g, 0, none⟩ = some (.int .i64 (l[0])) := (hbel.cell (p := ⟨g, 0, none⟩) hg1).trans (hcell 0 hl1)
        have H1 := hideIt (HH.out hl1)
        have HTw := hideIt (HT.out.below hbel (Nat.le_refl _))
        generalize l[0] = x0 at *
        clear hcell
        go_wp2
        go_quiet ((first | (go_at_call 12; exact quietEq (count_v b _ HC.out _)) | (go_at_call 13; exact quietEq (first_v b x0 H1.out _ HTw.out))))
        go_wp2
        go_ret
        exact ⟨rfl, below_drewN (hb.trans (hbel.mono hb.size)) _⟩

end Go.Proofs.YtndijfckmokgbaaDoor
