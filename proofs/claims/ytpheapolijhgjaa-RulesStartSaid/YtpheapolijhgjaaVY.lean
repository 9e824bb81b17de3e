/- Walks of the reference of rules: empties, Start960. -/
import Derived.Test.YtpheapolijhgjaaVX
namespace Go.Proofs.Ytpheapolijhgjaa
open Go Go.RowKit
set_option linter.unusedVariables false

/-- The empty files of a row. -/
def empK (m : Nat → Int) : Nat → List Int
  | 0 => []
  | k + 1 => if m k = 0 then empK m k ++ [(k : Int)] else empK m k
def empL (m : Nat → Int) : List Int := empK m 8
theorem empK_len (m : Nat → Int) : ∀ k, (empK m k).length ≤ k
  | 0 => Nat.le_refl 0
  | k + 1 => by
    have := empK_len m k
    unfold empK
    split
    · rw [List.length_append, List.length_singleton]; omega
    · omega
theorem empK_congr {m m' : Nat → Int} (h : ∀ k, m k = 0 ↔ m' k = 0) : ∀ k, empK m k = empK m' k
  | 0 => rfl
  | k + 1 => by
    unfold empK
    rw [empK_congr h k]
    by_cases e : m k = 0
    · rw [if_pos e, if_pos ((h k).1 e)]
    · rw [if_neg e, if_neg (fun h' => e ((h k).2 h'))]

set_option maxHeartbeats 1600000 in
theorem empties_any (m : Nat → Int) (w : World) : Calls Try.prog 33 #[.agg (r8 m)] w fun e w' => ∃ v, e = .returned v ∧ OwnsI w' w.heap.size v (empL m) ∧ Below w.heap.size w w' := by
  obtain ⟨i0, hi, hz0, hz1, hz2⟩ := info_parts Try.infoI
  have r0 := R8At.new w m
  have hb0 := (Below.refl w.heap.size w).alloc (Nat.le_refl _) (.cells (r8 m) 58)
  have ow0 : OwnsI (w.alloc (.cells (r8 m) 58)) (w.heap.size + 1) (.slice none 0 0) (empK m 0) := World.ownsRow_nil _ _ _ _
  go_enter Try.func33, Try.ntmps33
  go_wp2
  generalize World.alloc w _ = X at r0 hb0 ow0 ⊢
  go_loopw [3, 4] (fun v i wr => ∃ k : Nat, k ≤ 8 ∧ i = .int .i64 k ∧ OwnsI wr (w.heap.size + 1) v (empK m k) ∧ R8At wr w.heap.size m ∧ Below w.heap.size w wr) (fun _ i _ => 8 - (intOf i).toNat)
  case atStart => exact ⟨0, by omega, rfl, ow0, r0, hb0⟩
  case round =>
    clear r0 hb0 ow0
    obtain ⟨k, hk, rfl, hown, hrow, hbel⟩ := hrel
    by_cases hlt : k < 8
    · have cx := hrow.cell k hlt
      have hlr := hrow.lt
      obtain ⟨x, hx⟩ : ∃ x, m k = x := ⟨_, rfl⟩
      rw [hx] at cx
      by_cases h0 : x = 0
      · have e0 : (x == 0) = true := beq_iff_eq.2 h0
        have HE := hideIt (show empK m (k + 1) = empK m k ++ [(k : Int)] from if_pos (hx.trans h0))
        have hll : (empK m k).length ≤ 8 := by have := empK_len m k; omega
        have hle := hbel.size
        have HR := hideIt hrow
        clear hrow hx h0
        go_wp2_with (at_builtin; refine wpList_append_own _ rfl _ _ 48 rfl (w.heap.size + 1) 3 i0 (.int .i64 0) 1 8 Try.underlying48 hi hz0 hz1 hz2 rfl (by decide) _ _ _ rfl (World.ownsRow.alloc hown _) ⟨wr.heap.size, 0, none⟩ 1 1 [.int .i64 (k : Int)] rfl rfl (cell_one_new _ _ _) (fun x hx => by simp at hx; subst hx; rfl) (by unfold maxLen; omega) (by omega) (by simp; omega) ?_; intro v' w3 hown' hgrow3 _)
        go_roundw
        case rel => exact ⟨k + 1, by omega, by go_num, by rw [HE.out]; exact OwnsI.app hown', (hgrow3.block w.heap.size (by simp; omega) (fun e => by have := (World.ownsRow.lt hown _ e.symm).1; omega)).trans (HR.out.alloc _), OwnsI.grown (hown.less (Nat.le_succ _)) hbel hle _ hgrow3⟩
        case measure => simp [intOf]; omega
      · have e0 : (x == 0) = false := beq_eq_false_iff_ne.2 h0
        have HE := hideIt (show empK m (k + 1) = empK m k from if_neg (fun h => h0 (hx.symm.trans h)))
        clear hx h0
        go_wp2
        go_roundw
        case rel => exact ⟨k + 1, by omega, by go_num, by rw [HE.out]; exact hown, hrow, hbel⟩
        case measure => simp [intOf]; omega
    · obtain rfl : k = 8 := by omega
      go_wp2
      go_ret
      exact ⟨_, rfl, hown.less (Nat.le_succ _), hbel⟩

end Go.Proofs.Ytpheapolijhgjaa
