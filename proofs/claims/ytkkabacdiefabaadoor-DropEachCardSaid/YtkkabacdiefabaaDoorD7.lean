/- The walk of the reference's Same over two slices of the same moves. -/
import Derived.Test.YtkkabacdiefabaaDoorM
import Derived.Deep.QuietTactic
import Derived.BigQuiet
namespace Go.Proofs.YtkkabacdiefabaaDoor
open Go Go.RowKit
set_option linter.unusedVariables false

theorem blN15 (w : World) (k : Nat) : Below w.heap.size w (w.drewN k) := (Below.refl _ _).trans ⟨rfl, rfl, rfl, Nat.le_refl _, fun _ _ => rfl⟩
theorem neq_same (m : Mv) (h : m.Ok) (w : World) : (binOp .neq 45 (.agg #[.int .i8 m.f, .int .i8 m.t, .int .u8 m.p, .int .u8 m.d, .bool m.c]) (.agg #[.int .i8 m.f, .int .i8 m.t, .int .u8 m.p, .int .u8 m.d, .bool m.c])).run Tryd.prog w = .ok (.bool false) w := by
  have := neq_mv m m h h w
  rw [decide_eq_true rfl] at this
  exact this
set_option maxHeartbeats 1600000 in
theorem same_yes (l : List Mv) (hok : ∀ m ∈ l, m.Ok) (hlen : l.length ≤ 1000000) (w : World) (B1 B2 : Nat) (v1 v2 : Value) (h1 : OwnsM w B1 v1 l) (h2 : OwnsM w B2 v2 l) :
    Calls Tryd.prog 9 #[v1, v2] w fun e w' => e = .returned (.bool true) ∧ Below w.heap.size w w' := by
  have HO := hideIt hok
  clear hok
  rcases h1.form with ⟨hl, a1, c1, rfl⟩ | ⟨g1, c1, rfl, _, hs1, hne, hc1⟩
  · rcases h2.form with ⟨_, a2, c2, rfl⟩ | ⟨_, _, _, _, _, hne, _⟩
    · clear h1 h2 HO hl hlen
      go_enter Tryd.func9, Tryd.ntmps9
      go_wp2
      refine wp_loop_rounds 1 ?_
      rw [rounds_succ]
      go_wp2
      go_ret
      exact ⟨rfl, Below.refl _ _⟩
    · exact absurd hl hne
  · rcases h2.form with ⟨hl, _⟩ | ⟨g2, c2, rfl, _, hs2, _, hc2⟩
    · exact absurd hl hne
    · have HC1 := hideIt hc1
      have HC2 := hideIt hc2
      clear hc1 hc2 h1 h2 hne
      obtain ⟨n, hn⟩ : ∃ n, l.length = n := ⟨_, rfl⟩
      have HN := hideIt hn
      rw [hn] at hlen ⊢
      clear hn
      go_enter Tryd.func9, Tryd.ntmps9
      go_wp2
      go_loopw [5] (fun i wr => ∃ k : Nat, k ≤ n ∧ i = .int .i64 k ∧ Below w.heap.size w wr) (fun i _ => n - (intOf i).toNat)
      case atStart => exact ⟨0, by omega, rfl, Below.refl _ _⟩
      case round =>
        obtain ⟨k, hk, rfl, hr⟩ := hrel
        by_cases hlt : k < n
        · have hkl : k < l.length := by rw [HN.out]; exact hlt
          obtain ⟨p0, p1, p2, p3, p4⟩ := HC1.out k hkl
          obtain ⟨q0, q1, q2, q3, q4⟩ := HC2.out k hkl
          have hm := HO.out l[k] (List.getElem_mem hkl)
          generalize l[k] = m at p0 p1 p2 p3 p4 q0 q1 q2 q3 q4 hm
          have p0 := (hr.cell (p := ⟨g1, k * 5, none⟩) hs1).trans p0
          have p1 := (hr.cell (p := ⟨g1, k * 5 + 1, none⟩) hs1).trans p1
          have p2 := (hr.cell (p := ⟨g1, k * 5 + 2, none⟩) hs1).trans p2
          have p3 := (hr.cell (p := ⟨g1, k * 5 + 3, none⟩) hs1).trans p3
          have p4 := (hr.cell (p := ⟨g1, k * 5 + 4, none⟩) hs1).trans p4
          have q0 := (hr.cell (p := ⟨g2, k * 5, none⟩) hs2).trans q0
          have q1 := (hr.cell (p := ⟨g2, k * 5 + 1, none⟩) hs2).trans q1
          have q2 := (hr.cell (p := ⟨g2, k * 5 + 2, none⟩) hs2).trans q2
          have q3 := (hr.cell (p := ⟨g2, k * 5 + 3, none⟩) hs2).trans q3
          have q4 := (hr.cell (p := ⟨g2, k * 5 + 4, none⟩) hs2).trans q4
          have ne := neq_same m hm
          have i0 : (0 : Int) ≤ (k : Int) := by omega
          have i1 : (k : Int) < (n : Int) := by omega
          have hkn := hlt
          clear hm hkl
          go_wp2
          go_quiet (fail)
          go_wp2
          go_roundw
          case rel => exact ⟨k + 1, by omega, by go_num, hr.trans ((blN15 _ _).mono hr.size)⟩
          case measure => simp [intOf]; omega
        · obtain rfl : k = n := by omega
          go_wp2
          go_ret
          exact ⟨rfl, hr⟩

end Go.Proofs.YtkkabacdiefabaaDoor
