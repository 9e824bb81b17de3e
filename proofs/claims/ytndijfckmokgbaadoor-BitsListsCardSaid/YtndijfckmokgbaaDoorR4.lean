/- Walks of the reference of bits: Same. -/
import Derived.Test.YtndijfckmokgbaaDoorR2
namespace Go.Proofs.YtndijfckmokgbaaDoor
open Go Go.RowKit

set_option maxHeartbeats 800000 in
/-- Two slices of one list are the same. -/
theorem rsame_any (w : World) (B1 B2 : Nat) (v1 v2 : Value) (l : List Int) (h1 : OwnsI w B1 v1 l) (h2 : OwnsI w B2 v2 l) (hl : l.length ≤ 1000000) :
    Calls Tryd.prog 11 #[v1, v2] w fun e w' => e = .returned (.bool true) ∧ Below w.heap.size w w' := by
  rcases h1.form with ⟨e1, x1, c1, rfl⟩ | ⟨g1, c1, rfl, _, hg1, hne, hc1, _⟩
  · subst e1
    rcases h2.form with ⟨_, x2, c2, rfl⟩ | ⟨g2, c2, rfl, _, _, hne2, _⟩
    · go_enter Tryd.func11, Tryd.ntmps11
      go_wp2
      refine wp_loop_rounds 1 ?_
      rw [rounds_succ]
      go_wp2
      go_ret
      exact ⟨rfl, Below.refl _ _⟩
    · exact absurd rfl hne2
  · rcases h2.form with ⟨e2, x2, c2, rfl⟩ | ⟨g2, c2, rfl, _, hg2, _, hc2, _⟩
    · exact absurd e2 hne
    · go_enter Tryd.func11, Tryd.ntmps11
      go_wp2
      go_loopw [5] (fun i wr => ∃ k : Nat, k ≤ l.length ∧ i = .int .i64 k ∧ Below w.heap.size w wr) (fun i _ => l.length - (intOf i).toNat)
      case atStart => exact ⟨0, by omega, rfl, Below.refl _ _⟩
      case round =>
        obtain ⟨k, hk, rfl, hb⟩ := hrel
        by_cases hlt : k < l.length
        · have a1 : wr.cell? ⟨g1, k, none⟩ = some (.int .i64 (l[k])) := (hb.cell (p := ⟨g1, k, none⟩) hg1).trans (hc1 k hlt)
          have a2 : wr.cell? ⟨g2, k, none⟩ = some (.int .i64 (l[k])) := (hb.cell (p := ⟨g2, k, none⟩) hg2).trans (hc2 k hlt)
          generalize l[k] = x at *
          clear hc1 hc2
          go_wp2
          go_quiet (fail)
          go_wp2
          go_roundw
          case rel => exact ⟨k + 1, by omega, by go_num, below_drewN hb _⟩
          case measure => simp [intOf]; omega
        · go_wp2
          go_ret
          exact ⟨rfl, hb⟩

end Go.Proofs.YtndijfckmokgbaaDoor
