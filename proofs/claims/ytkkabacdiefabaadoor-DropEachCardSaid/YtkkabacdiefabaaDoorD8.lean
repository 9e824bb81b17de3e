/- Facts of law 15's awake. -/
import Derived.Test.YtkkabacdiefabaaDoorD2
import Derived.Test.YtkkabacdiefabaaDoorD4
namespace Go.Proofs.YtkkabacdiefabaaDoor
open Go Go.RowKit
set_option linter.unusedVariables false

def awN : Nat → Int := upd (upd (startN 2) 68 1) 67 1
theorem awOk : PosOk awN := fun i hi => (by decide +kernel : ∀ i : Fin 88, (Lit.int (kindAt i.val) (awN i.val)).wf = true) ⟨i, hi⟩
theorem stOk2 : PosOk (startN 2) := fun i hi => (by decide +kernel : ∀ i : Fin 88, (Lit.int (kindAt i.val) (startN 2 i.val)).wf = true) ⟨i, hi⟩
theorem aw0 : awN 0 = 2 ∧ awN 78 = 0 := by decide +kernel
theorem aw_len : (dropK awN 0 5).length = 64 := by decide +kernel
theorem aw_first : (dropK awN 0 5)[0]? = some (dmv 16 1) := by decide +kernel
theorem aw_last : (dropK awN 0 5)[63]? = some (dmv 47 2) := by decide +kernel
theorem aw_held : hldI awN 0 = 2 ∧ menI awN = 34 := by decide +kernel
theorem aw_take : takB awN 0 5 = false := by decide +kernel
theorem aw_takN : takN awN 0 5 = awN := by unfold takN; rw [aw_take]; rfl
theorem aw_add : hldI (addN awN 0 5) 0 = 3 := by decide +kernel
theorem add_ok {n : Nat → Int} (hn : PosOk n) (c k : Nat) : PosOk (addN n c k) := by
  unfold addN
  split
  · rename_i h
    unfold addB at h
    rw [Bool.and_eq_true, fits_iff, decide_eq_true_eq] at h
    obtain ⟨⟨h1, h2, h3⟩, h4⟩ := h
    have hk := kind_pock c k h1 (by omega)
    obtain ⟨x0, x1⟩ := hn.u8 (66 + 6 * c + k) (by omega) hk
    have he : poIx c k = 66 + 6 * c + k := rfl
    rw [he] at h4 ⊢
    exact hn.upd (by rw [hk]; exact wf_u8_mk (by omega) (by omega))
  · exact hn
theorem tak_ok {n : Nat → Int} (hn : PosOk n) (c k : Nat) : PosOk (takN n c k) := by
  unfold takN
  split
  · rename_i h
    unfold takB at h
    rw [Bool.and_eq_true, fits_iff] at h
    obtain ⟨⟨h1, h2, h3⟩, h4⟩ := h
    have hk := kind_pock c k h1 (by omega)
    obtain ⟨x0, x1⟩ := hn.u8 (66 + 6 * c + k) (by omega) hk
    have he : poIx c k = 66 + 6 * c + k := rfl
    rw [he] at h4 ⊢
    have h5 : n (66 + 6 * c + k) ≠ 0 := by
      intro e; rw [e] at h4; cases h4
    exact hn.upd (by rw [hk]; exact wf_u8_mk (by omega) (by omega))
  · exact hn

end Go.Proofs.YtkkabacdiefabaaDoor
