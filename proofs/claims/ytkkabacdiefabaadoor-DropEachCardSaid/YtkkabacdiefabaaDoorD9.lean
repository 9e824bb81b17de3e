/- The lists of drops of any position. -/
import Derived.Test.YtkkabacdiefabaaDoorD5
import Derived.Test.YtkkabacdiefabaaDoorD6
import Derived.Test.YtkkabacdiefabaaDoorD7
namespace Go.Proofs.YtkkabacdiefabaaDoor
open Go Go.RowKit
set_option linter.unusedVariables false

theorem dropK_ok (n : Nat → Int) (t : Nat) : ∀ j, j ≤ 5 → ∀ m ∈ dropK n t j, m.Ok
  | 0, _ => fun m hm => by cases hm
  | j + 1, hj => fun m hm => by
    unfold dropK at hm
    rcases List.mem_append.1 hm with h | h
    · exact dropK_ok n t j (by omega) m h
    · split at h
      · cases h
      · obtain ⟨s, hs, rfl⟩ := List.mem_map.1 h
        have hm := (mem_listB _ s).1 hs
        have hb : 0 ≤ s ∧ s < 64 := by
          by_cases h : 0 ≤ s ∧ s < 64
          · exact h
          · rw [hasB_out _ h] at hm; cases hm
        unfold Mv.Ok dmv
        simp only
        omega
theorem dropL_ok (n : Nat → Int) (v t : Nat) : ∀ m ∈ dropL n v t, m.Ok := by
  unfold dropL
  split
  · exact dropK_ok n t 5 (Nat.le_refl 5)
  · intro m hm; cases hm
theorem dropL_len (n : Nat → Int) (v t : Nat) : (dropL n v t).length ≤ 320 := by
  unfold dropL
  split
  · exact dropK_len n t 5
  · exact Nat.zero_le _
theorem dl_any (n : Nat → Int) (hn : PosOk n) (v t : Nat) (hv : n 0 = v) (ht : n 78 = t) (hv9 : v ≤ 255) (w : World) (hT : Tab w) :
    Calls Tryd.prog 10 #[.agg (posA n)] w fun e w' => ∃ x, e = .returned x ∧ OwnsM w' w.heap.size x (dropL n v t) ∧ Below w.heap.size w w' := by
  by_cases h : t ≤ 1 ∧ v = 2
  · have e : dropL n v t = dropK n t 5 := if_pos h
    rw [e]
    obtain ⟨h1, rfl⟩ := h
    have hc : t = 0 ∨ t = 1 := by omega
    rcases hc with rfl | rfl
    · exact droplist_0 n hn hv ht w hT
    · exact droplist_1 n hn hv ht w hT
  · have e : dropL n v t = [] := if_neg h
    rw [e]
    refine (drop_none n hn v t hv ht hv9 h w).mono ?_
    rintro e w' ⟨rfl, hb⟩
    exact ⟨_, rfl, World.ownsRow_nil _ _ _ _, hb⟩
theorem rdl_any (n : Nat → Int) (hn : PosOk n) (v t : Nat) (hv : n 0 = v) (ht : n 78 = t) (hv9 : v ≤ 255) (w : World) :
    Calls Tryd.prog 11 #[.agg (posA n)] w fun e w' => ∃ x, e = .returned x ∧ OwnsM w' w.heap.size x (dropL n v t) ∧ Below w.heap.size w w' := by
  by_cases h : t ≤ 1 ∧ v = 2
  · have e : dropL n v t = dropK n t 5 := if_pos h
    rw [e]
    obtain ⟨h1, rfl⟩ := h
    have hc : t = 0 ∨ t = 1 := by omega
    rcases hc with rfl | rfl
    · exact rdroplist_0 n hn hv ht w
    · exact rdroplist_1 n hn hv ht w
  · have e : dropL n v t = [] := if_neg h
    rw [e]
    refine (rdrop_none n hn v t hv ht hv9 h w).mono ?_
    rintro e w' ⟨rfl, hb⟩
    exact ⟨_, rfl, World.ownsRow_nil _ _ _ _, hb⟩
theorem keepD {X W : World} {g : Nat} {n : Nat → Int} (h : PosAt X g n) (hT : Tab X) (hb : Below X.heap.size X W) :
    (IsPos W g ∧ rowOf W g = posA n) ∧ Tab W ∧ Below X.heap.size X W :=
  ⟨(h.below hb h.lt).rules, hT.below hb (Nat.le_refl _), hb⟩

end Go.Proofs.YtkkabacdiefabaaDoor
