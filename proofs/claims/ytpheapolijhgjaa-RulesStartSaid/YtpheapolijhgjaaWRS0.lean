/- RulesStart: positions that fit. -/
import Derived.Test.YtpheapolijhgjaaVZ
import Derived.Deep.RegionHeld3
namespace Go.Proofs.Ytpheapolijhgjaa
open Go Go.RowKit
set_option linter.unusedVariables false

theorem zero_ok : PosOk zeroN := fun i hi => by
  have : ∀ i : Fin 88, (Lit.int (kindAt i.val) 0).wf = true := by decide
  exact this ⟨i, hi⟩
theorem start_okF : ∀ v : Fin 9, ∀ i : Fin 88, (Lit.int (kindAt i.val) (startN v.val i.val)).wf = true := by decide +kernel
theorem start_ok (v : Nat) : PosOk (startN v) := by
  by_cases h : v < 9
  · exact fun i hi => start_okF ⟨v, h⟩ ⟨i, hi⟩
  · rw [show startN v = zeroN from if_pos (by omega)]; exact zero_ok
theorem noneOkF : ∀ v : Fin 9, ∀ i : Fin 88, (Lit.int (kindAt i.val) (noneN v.val i.val)).wf = true := by decide +kernel
theorem menOk {l n : Nat → Int} (h : PosOk n) (hl : ∀ k, 0 ≤ l k ∧ l k < 200) (k : Nat) (hk : k < 8) : PosOk (menK l n k) := by
  have := hl k
  unfold menK
  exact (((h.upd (by rw [kind_board (by omega)]; exact wf_u8_mk this.1 (by omega))).upd (by rw [kind_board (by omega)]; exact wf_u8_mk (by decide) (by decide))).upd (by rw [kind_board (by omega)]; exact wf_u8_mk (by omega) (by omega))).upd (by rw [kind_board (by omega)]; exact wf_u8_mk (by decide) (by decide))
theorem rookOk {n : Nat → Int} (h : PosOk n) (k : Nat) (hk : k < 8) : PosOk (rookK n k) := by
  unfold rookK sideI
  split
  · exact PosOk.upd (i := 81 + 1) (PosOk.upd (i := 79 + 1) h (show (Lit.int .i8 (k : Int)).wf = true from wf_i8_mk (by omega) (by omega))) (show (Lit.int .i8 (k : Int)).wf = true from wf_i8_mk (by omega) (by omega))
  · exact PosOk.upd (i := 81 + 0) (PosOk.upd (i := 79 + 0) h (show (Lit.int .i8 (k : Int)).wf = true from wf_i8_mk (by omega) (by omega))) (show (Lit.int .i8 (k : Int)).wf = true from wf_i8_mk (by omega) (by omega))
theorem bothOk (v : Nat) (hv : v < 9) (l : Nat → Int) (hl : ∀ k, 0 ≤ l k ∧ l k < 200) : ∀ k, k ≤ 8 → PosOk (bothK v l k)
  | 0, _ => fun i hi => noneOkF ⟨v, hv⟩ ⟨i, hi⟩
  | k + 1, hk => by
    have ih := bothOk v hv l hl k (by omega)
    unfold bothK
    split
    · exact rookOk (menOk ih hl k (by omega)) k (by omega)
    · exact menOk ih hl k (by omega)
theorem ok960N (n : Nat) : PosOk (start960N n) := bothOk 1 (by decide) (row7 n) (row7_bd n) 8 (Nat.le_refl 8)
theorem eq518F : ∀ i : Fin 88, startN 1 i.val = start960N 518 i.val := by decide +kernel
theorem eq518 : eqP (startN 1) (start960N 518) = true := (eqP_iff _ _).2 fun i hi => eq518F ⟨i, hi⟩
theorem keepPQ {X W : World} {g q : Nat} {n m : Nat → Int} (h : PosAt X g n) (k : PosAt X q m) (hb : Below X.heap.size X W) : (IsPos W g ∧ rowOf W g = posA n) ∧ (IsPos W q ∧ rowOf W q = posA m) ∧ Below X.heap.size X W := ⟨(h.below hb h.lt).rules, (k.below hb k.lt).rules, hb⟩
theorem blD {V w' : World} (h : Below V.drew.heap.size V.drew w') : Below V.heap.size V w' := bl_then (bl_drew (Below.refl _ _)) h

end Go.Proofs.Ytpheapolijhgjaa
