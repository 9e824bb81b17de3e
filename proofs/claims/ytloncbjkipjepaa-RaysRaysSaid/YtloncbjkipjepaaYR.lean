/- Walks of the reference of rays: apart, square, Walk, Ray. -/
import Derived.Test.YtloncbjkipjepaaY8
import Derived.Test.YtloncbjkipjepaaSR
import Derived.Test.YtloncbjkipjepaaR3
import Derived.Test.YtloncbjkipjepaaR5
namespace Go.Proofs.Ytloncbjkipjepaa
open Go Go.RowKit

theorem rap_any (a b : Int) (ha : -1 ≤ a ∧ a ≤ 63) (hb : -1 ≤ b ∧ b ≤ 63) (w : World) :
    Calls Try.prog 41 #[.int .i64 a, .int .i64 b] w fun e w' => e = .returned (.int .i64 (apI a b)) ∧ w = w' := by
  have h0 := ha.1
  have h1 := ha.2
  have h2 := hb.1
  have h3 := hb.2
  by_cases h : a < b
  · go_enter Try.func41, Try.ntmps41
    go_wp2
    go_ret
    exact ⟨ret_int (by unfold apI; omega), rfl⟩
  · go_enter Try.func41, Try.ntmps41
    go_wp2
    go_ret
    exact ⟨ret_int (by unfold apI; omega), rfl⟩

theorem rsq_yes (s : Int) (h : 0 ≤ s ∧ s < 64) (w : World) :
    Calls Try.prog 40 #[.int .i64 s] w fun e w' => e = .returned (.bool true) ∧ w = w' := by
  have h0 := h.1
  have h1 := h.2
  go_enter Try.func40, Try.ntmps40
  go_wp2
  go_ret
  exact ⟨rfl, rfl⟩
theorem rsq_no (s : Int) (h : ¬ (0 ≤ s ∧ s < 64)) (w : World) :
    Calls Try.prog 40 #[.int .i64 s] w fun e w' => e = .returned (.bool false) ∧ w = w' := by
  have hc : s < 0 ∨ (0 ≤ s ∧ 64 ≤ s) := by omega
  rcases hc with h1 | ⟨h1, h2⟩
  all_goals
    clear h
    go_enter Try.func40, Try.ntmps40
    go_wp2
    go_ret
    first | exact ⟨rfl, rfl⟩ | exact ⟨ret_bool (decide_eq_false (by omega)), rfl⟩

set_option maxHeartbeats 800000 in
theorem rwalk_any (s d : Int) (w : World) :
    Calls Try.prog 34 #[.int .i64 s, .int .i64 d] w fun e w' => ∃ v, e = .returned v ∧ OwnsI w' w.heap.size v (walkL s d) ∧ Below w.heap.size w w' := by
  obtain ⟨i0, hi, hz0, hz1, hz2⟩ := info_parts Try.infoI
  have HT := hideIt (walk_tail s d)
  have HL := hideIt (walk_len s d)
  have HB := hideIt (step_bd s d)
  go_enter Try.func34, Try.ntmps34
  go_wp2_with fail
  refine (rstep_any _ _ _).mono ?_
  rintro e w1 ⟨rfl, hb1⟩
  go_wp2
  go_loopw [5, 6] (fun v t wr => ∃ (l : List Int) (y : Int), t = .int .i64 y ∧ -1 ≤ y ∧ y < 64 ∧ l.length ≤ 7 ∧ Hid (l ++ tailL y d = walkL s d) ∧ OwnsI wr w.heap.size v l ∧ Below w.heap.size w wr) (fun _ t _ => (tailL (intOf t) d).length)
  case atStart => exact ⟨[], stepI s d, rfl, HB.out.1, HB.out.2, by decide, hideIt (by rw [HT.out]; rfl), World.ownsRow_nil _ _ _ _, hb1⟩
  case round =>
    obtain ⟨l, y, rfl, hy0, hy1, hl7, hw, hown, hbel⟩ := hrel
    by_cases hlt : 0 ≤ y
    · have hle := hbel.size
      have HC := hideIt (tail_cons (d := d) hlt)
      have HW : Hid ((l ++ [y]) ++ tailL (stepI y d) d = walkL s d) := by
        have := hw.out; rw [HC.out] at this; show _ = _; rw [← this]; simp
      have hl2 : (l ++ [y]).length ≤ 7 := by
        have := HL.out; rw [← HW.out, List.length_append] at this; omega
      have HY := hideIt (step_bd y d)
      go_wp2_with (at_builtin; refine wpList_append_own _ rfl _ _ 39 rfl w.heap.size 3 i0 (.int .i64 0) 1 8 Try.underlying39 hi hz0 hz1 hz2 rfl (by decide) _ _ _ rfl (World.ownsRow.alloc hown _) ⟨wr.heap.size, 0, none⟩ 1 1 [.int .i64 y] rfl rfl (cell_one_new _ _ _) (fun x hx => by simp at hx; subst hx; rfl) (by unfold maxLen; omega) (by omega) (by simp; omega) ?_; intro v' w3 hown' hgrow3 _)
      have hb3 := OwnsI.grown hown hbel hle _ hgrow3
      have hown3 := OwnsI.app hown'
      clear hown' hgrow3
      go_wp2_with fail
      refine (rstep_any _ _ _).mono ?_
      rintro e w4 ⟨rfl, hb4⟩
      go_wp2
      go_roundw
      case rel => exact ⟨l ++ [y], stepI y d, rfl, HY.out.1, HY.out.2, hl2, HW, hown3.kept hb4 (Nat.le_refl _), hb3.trans (hb4.mono hb3.size)⟩
      case measure => simp only [intOf]; rw [HC.out]; simp
    · have HE : Hid (l = walkL s d) := by
        have := hw.out; rw [tail_nil (by omega), List.append_nil] at this; exact this
      go_wp2
      go_ret
      exact ⟨_, rfl, by rw [← HE.out]; exact hown, hbel⟩

theorem owns_cells {w : World} {B : Nat} {v : Value} {l : List Int} (h : OwnsI w B v l) : ∃ a c, v = .slice a l.length c ∧ (l = [] ∨ ∃ g, a = some ⟨g, 0, none⟩ ∧ ∀ k (hk : k < l.length), w.cell? ⟨g, k, none⟩ = some (.int .i64 (l[k]))) := by
  rcases h.form with ⟨rfl, a, c, rfl⟩ | ⟨g, c, rfl, _, _, _, hc, _⟩
  · exact ⟨a, c, rfl, .inl rfl⟩
  · exact ⟨_, c, rfl, .inr ⟨g, rfl, hc⟩⟩

set_option maxHeartbeats 800000 in
theorem rray_any (s d : Int) (w : World) :
    Calls Try.prog 12 #[.int .i64 s, .int .i64 d] w fun e w' => e = .returned (.int .u64 (u (rayB s d))) ∧ Below w.heap.size w w' := by
  have HL := hideIt (walk_len s d)
  have HR := hideIt (show foldPut (fun x => x) (walkL s d) = rayB s d from ray_of s d)
  go_enter Try.func12, Try.ntmps12
  go_wp2_with fail
  refine (rwalk_any s d _).mono ?_
  rintro e w1 ⟨v, rfl, hown, hb⟩
  obtain ⟨a, c, rfl, hc⟩ := owns_cells hown
  clear hown
  have HC := hideIt hc
  clear hc
  go_wp2_with fail
  refine (rof_any a c (walkL s d) _ (by have := HL.out; omega) HC.out).mono ?_
  rintro e w2 ⟨rfl, rfl⟩
  rw [HR.out]
  go_wp2
  go_ret
  exact ⟨rfl, hb⟩

end Go.Proofs.Ytloncbjkipjepaa
