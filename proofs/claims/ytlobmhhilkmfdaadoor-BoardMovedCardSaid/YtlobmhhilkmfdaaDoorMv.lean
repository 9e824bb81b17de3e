/- A piece taken from a square and put on another: the sets, the counts. -/
import Derived.Test.YtlobmhhilkmfdaaDoorWBP0
namespace Go.Proofs.YtlobmhhilkmfdaaDoor
open Go Go.RowKit
set_option linter.unusedVariables false

theorem cnt_or2 {a b : BitVec 64} (h : a &&& b = 0#64) : cntB (a ||| b) = cntB a + cntB b := by
  have hd : ∀ k, ¬ (a.getLsbD k = true ∧ b.getLsbD k = true) := by
    intro k hk
    have := congrArg (fun x => x.getLsbD k) h
    simp only [BitVec.getLsbD_and, hk.1, hk.2] at this
    simp at this
  have : ∀ l : List Nat, (l.filter (fun k => (a ||| b).getLsbD k)).length = (l.filter (fun k => a.getLsbD k)).length + (l.filter (fun k => b.getLsbD k)).length := by
    intro l
    induction l with
    | nil => rfl
    | cons k l ih =>
      have hk := hd k
      simp only [List.filter_cons, BitVec.getLsbD_or] at ih ⊢
      cases ha : a.getLsbD k <;> cases hb : b.getLsbD k <;> simp_all <;> omega
  unfold cntB listB listN
  rw [List.length_map, List.length_map, List.length_map]
  exact this _
theorem cnt_one : ∀ s : Fin 64, cntB (oneB (s.val : Int)) = 1 := by decide +kernel
theorem cnt_oneI (s : Int) (h0 : 0 ≤ s) (h1 : s < 64) : cntB (oneB s) = 1 := by
  obtain ⟨k, rfl⟩ : ∃ k : Nat, s = k := ⟨s.toNat, by omega⟩
  exact cnt_one ⟨k, by omega⟩
theorem and_none {a b : BitVec 64} (h : ∀ s : Int, ¬ (hasB a s = true ∧ hasB b s = true)) : a &&& b = 0#64 := by
  apply ext_has'
  intro s
  rw [has_and, has_zero, Bool.and_eq_true]
  constructor
  · intro hh; exact absurd hh (h s)
  · intro hh; cases hh
/-- One square left, another one taken: as many. -/
theorem cnt_move (b : BitVec 64) (f t : Int) (f0 : 0 ≤ f) (f1 : f < 64) (t0 : 0 ≤ t) (t1 : t < 64) (hf : hasB b f = true) (ht : hasB b t = false) : cntB (putB (clearB b f) t) = cntB b := by
  have e1 : b = clearB b f ||| oneB f := by
    apply ext_has'
    intro s
    rw [has_or, has_clear, has_one]
    by_cases e : s = f
    · subst e; rw [hf, decide_eq_true ⟨rfl, f0, f1⟩]; simp
    · rw [decide_eq_false (fun h => e h.1)]; simp
  have e2 : putB (clearB b f) t = clearB b f ||| oneB t := rfl
  have n1 : clearB b f &&& oneB f = 0#64 := and_none fun s h => by
    rw [has_clear, has_one] at h
    have h2 := h.2
    rw [h2] at h
    simp at h
  have n2 : clearB b f &&& oneB t = 0#64 := and_none fun s h => by
    rw [has_clear, has_one, decide_eq_true_iff] at h
    obtain ⟨h1, rfl, _⟩ := h
    rw [ht] at h1; simp at h1
  rw [e2, cnt_or2 n2, cnt_oneI t t0 t1]
  conv => rhs; rw [e1, cnt_or2 n1, cnt_oneI f f0 f1]

theorem at_moved (n : Nat → Int) (f t : Int) (f0 : 0 ≤ f) (f1 : f < 64) (t0 : 0 ≤ t) (t1 : t < 64) (hft : f ≠ t) (hx : isB (atN n f) = true) (s : Int) :
    atN (putN (putN n f 0) t (atN n f)) s = if s = t then atN n f else if s = f then 0 else atN n s := by
  rw [put_eq n f 0 f0 f1 (.inl rfl), put_eq _ t _ t0 t1 (.inr hx)]
  by_cases e : s = t
  · subst e; rw [if_pos rfl]; exact at_upd _ s _ t0 t1 (.inr hx)
  · rw [if_neg e, at_other _ t s _ t0 e]
    by_cases e2 : s = f
    · subst e2; rw [if_pos rfl]; exact at_upd _ s _ f0 f1 (.inl rfl)
    · rw [if_neg e2]; exact at_other _ f s _ f0 e2
theorem want_zero (c k : Int) : wantB 0 c k = false := rfl
section
variable (n : Nat → Int) (f t : Int) (f0 : 0 ≤ f) (f1 : f < 64) (t0 : 0 ≤ t) (t1 : t < 64) (hft : f ≠ t) (hx : isB (atN n f) = true) (ht : atN n t = 0) (c k : Int)
include f0 f1 t0 t1 hft hx ht
theorem of_moved_yes (hw : wantB (atN n f) c k = true) : putB (clearB (ofN n c k) f) t = ofN (putN (putN n f 0) t (atN n f)) c k := by
  apply ext_has'
  intro s
  rw [has_put, has_clear, has_of, has_of, at_moved n f t f0 f1 t0 t1 hft hx s]
  by_cases e : s = t
  · subst e; rw [if_pos rfl, hw, decide_eq_true (show s = s ∧ 0 ≤ s ∧ s < 64 from ⟨rfl, t0, t1⟩), Bool.or_true]
  · rw [if_neg e, decide_eq_false (show ¬ (s = t ∧ 0 ≤ s ∧ s < 64) from fun h => e h.1), Bool.or_false]
    by_cases e2 : s = f
    · subst e2; rw [if_pos rfl, want_zero, decide_eq_true (show s = s ∧ 0 ≤ s ∧ s < 64 from ⟨rfl, f0, f1⟩)]; simp
    · rw [if_neg e2, decide_eq_false (show ¬ (s = f ∧ 0 ≤ s ∧ s < 64) from fun h => e2 h.1)]; simp
theorem of_moved_no (hw : wantB (atN n f) c k = false) : ofN (putN (putN n f 0) t (atN n f)) c k = ofN n c k := by
  apply ext_has'
  intro s
  rw [has_of, has_of, at_moved n f t f0 f1 t0 t1 hft hx s]
  by_cases e : s = t
  · subst e; rw [if_pos rfl, hw, ht, want_zero]
  · rw [if_neg e]
    by_cases e2 : s = f
    · subst e2; rw [if_pos rfl, want_zero, hw]
    · rw [if_neg e2]
theorem cnt_moved : cntB (ofN (putN (putN n f 0) t (atN n f)) c k) = cntB (ofN n c k) := by
  cases hw : wantB (atN n f) c k with
  | false => rw [of_moved_no n f t f0 f1 t0 t1 hft hx ht c k hw]
  | true =>
    rw [← of_moved_yes n f t f0 f1 t0 t1 hft hx ht c k hw]
    exact cnt_move _ f t f0 f1 t0 t1 (by rw [has_of]; exact hw) (by rw [has_of, ht]; rfl)
end
theorem at_sq (n : Nat → Int) (s : Int) (h : atN n s ≠ 0) : 0 ≤ s ∧ s < 64 ∧ isB (atN n s) = true := by
  unfold atN at h ⊢
  split at h
  · rename_i hh; rw [if_pos hh]; exact ⟨hh.1, hh.2.1, hh.2.2⟩
  · exact absurd rfl h
theorem col_two {x : Int} (h : isB x = true) : colI x = 0 ∨ colI x = 1 := by
  rw [isB_iff] at h
  unfold colI
  rcases h with h | h
  · left; rw [if_pos h]
  · right; rw [if_neg (by omega), if_pos h]
theorem want_col {x c : Int} (h : isB x = true) (hc : colI x ≠ c) : wantB x c 0 = false := by
  unfold wantB
  rw [beq_eq_false_iff_ne.2 hc]; simp

end Go.Proofs.YtlobmhhilkmfdaaDoor
