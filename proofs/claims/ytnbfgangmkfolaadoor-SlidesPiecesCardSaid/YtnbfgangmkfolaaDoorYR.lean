/- Walks of the reference of rays: apart, square, Walk, Ray. -/
import Derived.Test.YtnbfgangmkfolaaDoorY8
import Derived.Test.YtnbfgangmkfolaaDoorSR
import Derived.Test.YtnbfgangmkfolaaDoorR3
import Derived.Test.YtnbfgangmkfolaaDoorR5
namespace Go.Proofs.YtnbfgangmkfolaaDoor
open Go Go.RowKit



set_option maxHeartbeats 800000 in
theorem rwalk_any (s d : Int) (w : World) :
    Calls Tryd.prog 35 #[.int .i64 s, .int .i64 d] w fun e w' => ∃ v, e = .returned v ∧ OwnsI w' w.heap.size v (walkL s d) ∧ Below w.heap.size w w' := by
  obtain ⟨i0, hi, hz0, hz1, hz2⟩ := info_parts Tryd.infoI
  have HT := hideIt (walk_tail s d)
  have HL := hideIt (walk_len s d)
  have HB := hideIt (step_bd s d)
  go_enter Tryd.func35, Tryd.ntmps35
  go_wp2_with fail
  refine (rstep_any _ _ _).mono ?_
  rintro e w1 ⟨rfl, hb1⟩
  go_wp2
  go_loopw [5, 6] (fun v t wr => ∃ (l : List Int) (y : Int), t = .int .i64 y ∧ -1 ≤ y ∧ y < 64 ∧ l.length ≤ 7 ∧ Hid (l ++ tailL y d = walkL s d) ∧ OwnsI wr w.heap.size v l ∧ Below w.heap.size w wr) (fun _ t _ => (tailL (intOf t) d).length)
  case atStart => exact ⟨[], stepI s d, rfl, HB.out.1, HB.out.2, by decide, hideIt (by rw [HT.out]; rfl), World.ownsRow_nil _ _ _ _, hb1⟩
  case round =>
    obtain ⟨l, y, rfl, hy0, hy1, hl7, hw, hown, hbel⟩ := hrel
    by_cases hlt : 0 ≤ y
    · have hle := hbel.size
      have HC := hideIt (tail_cons (d := d) hlt)
      have HW : Hid ((l ++ [y]) ++ tailL (stepI y d) d = walkL s d) := by
        have := hw.out; rw [HC.out] at this; show _ = _; rw [← this]; simp
      have hl2 : (l ++ [y]).length ≤ 7 := by
        have := HL.out; rw [← HW.out, List.length_append] at this; omega
      have HY := hideIt (step_bd y d)
      go_wp2_with (at_builtin; refine wpList_append_own _ rfl _ _ 34 rfl w.heap.size 3 i0 (.int .i64 0) 1 8 Tryd.underlying34 hi hz0 hz1 hz2 rfl (by decide) _ _ _ rfl (World.ownsRow.alloc hown _) ⟨wr.heap.size, 0, none⟩ 1 1 [.int .i64 y] rfl rfl (cell_one_new _ _ _) (fun x hx => by simp at hx; subst hx; rfl) (by unfold maxLen; omega) (by omega) (by simp; omega) ?_; intro v' w3 hown' hgrow3 _)
      have hb3 := OwnsI.grown hown hbel hle _ hgrow3
      have hown3 := OwnsI.app hown'
      clear hown' hgrow3
      go_wp2_with fail
      refine (rstep_any _ _ _).mono ?_
      rintro e w4 ⟨rfl, hb4⟩
      go_wp2
      go_roundw
      case rel => exact ⟨l ++ [y], stepI y d, rfl, HY.out.1, HY.out.2, hl2, HW, hown3.kept hb4 (Nat.le_refl _), hb3.trans (hb4.mono hb3.size)⟩
      case measure => simp only [intOf]; rw [HC.out]; simp
    · have HE : Hid (l = walkL s d) := by
        have := hw.out; rw [tail_nil (by omega), List.append_nil] at this; exact this
      go_wp2
      go_ret
      exact ⟨_, rfl, by rw [← HE.out]; exact hown, hbel⟩

theorem owns_cells {w : World} {B : Nat} {v : Value} {l : List Int} (h : OwnsI w B v l) : ∃ a c, v = .slice a l.length c ∧ (l = [] ∨ ∃ g, a = some ⟨g, 0, none⟩ ∧ ∀ k (hk : k < l.length), w.cell? ⟨g, k, none⟩ = some (.int .i64 (l[k]))) := by
  rcases h.form with ⟨rfl, a, c, rfl⟩ | ⟨g, c, rfl, _, _, _, hc, _⟩
  · exact ⟨a, c, rfl, .inl rfl⟩
  · exact ⟨_, c, rfl, .inr ⟨g, rfl, hc⟩⟩


end Go.Proofs.YtnbfgangmkfolaaDoor
