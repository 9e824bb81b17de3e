/- Rows in letters, and facts on them. -/
import Derived.Test.YtpheapolijhgjaaVY
namespace Go.Proofs.Ytpheapolijhgjaa
open Go Go.RowKit
set_option linter.unusedVariables false

/-- A row in letters. -/
def toL (x : Int) : Int := if x = 3 then 66 else if x = 5 then 81 else if x = 2 then 78 else if x = 4 then 82 else if x = 6 then 75 else 0
def qr (l : Nat → Int) : Nat → Int := fun k => toL (l k)
theorem qr_upd (l : Nat → Int) (i : Nat) (x : Int) : qr (upd l i x) = upd (qr l) i (toL x) := by
  funext k
  unfold qr upd
  split <;> rfl
def Rok (l : Nat → Int) : Prop := ∀ k, l k = 0 ∨ (2 ≤ l k ∧ l k ≤ 6)
theorem Rok.upd {l : Nat → Int} (h : Rok l) (i : Nat) (x : Int) (hx : 2 ≤ x ∧ x ≤ 6) : Rok (Proofs.Ytpheapolijhgjaa.upd l i x) := by
  intro k
  unfold Proofs.Ytpheapolijhgjaa.upd
  split
  · exact .inr hx
  · exact h k
theorem rok0 : Rok zeroN := fun k => .inl rfl
theorem rok1 (n : Nat) : Rok (row1 n) := rok0.upd _ 3 (by decide)
theorem rok2 (n : Nat) : Rok (row2 n) := (rok1 n).upd _ 3 (by decide)
theorem rok3 (n : Nat) : Rok (row3 n) := (rok2 n).upd _ 5 (by decide)
theorem rok4 (n : Nat) : Rok (row4 n) := ((rok3 n).upd _ 2 (by decide)).upd _ 2 (by decide)
theorem emp_qr {l : Nat → Int} (h : Rok l) : empL (qr l) = empL l := by
  refine empK_congr (fun k => ?_) 8
  unfold qr toL
  rcases h k with h | ⟨h1, h2⟩
  · rw [h]; exact ⟨fun _ => rfl, fun _ => rfl⟩
  · constructor
    · intro h3; exfalso; revert h3; repeat (first | (split; · decide) | omega)
    · intro h3; omega
theorem fa : ∀ n : Fin 960, (empL (row2 n.val)).length = 6 ∧ (empL (row2 n.val))[n.val / 16 % 6]? = some (emp (row2 n.val) ((n.val / 4 / 4 % 6 : Nat) : Int)) := by decide +kernel
theorem fb : ∀ n : Fin 960, (empL (row3 n.val)).length = 5 ∧ ∀ a : Fin 5, (empL (row3 n.val))[a.val]? = some (emp (row3 n.val) (a.val : Int)) := by decide +kernel
theorem fc : ∀ n : Fin 960, empL (row4 n.val) = [emp (row4 n.val) 0, emp (row5 n.val) 0, emp (row6 n.val) 0] := by decide +kernel
theorem fd : ∀ n : Fin 960, start960N n.val 79 = emp (row6 n.val) 0 ∧ start960N n.val 80 = emp (row4 n.val) 0 ∧ start960N n.val 81 = emp (row6 n.val) 0 ∧ start960N n.val 82 = emp (row4 n.val) 0 := by decide +kernel
def idxA (a : Nat) : Nat := if a = 0 then 0 else if a = 1 then 4 else if a = 2 then 7 else if a = 3 then 9 else 10
theorem idx_succ : ∀ a : Fin 5, idxA (a.val + 1) = idxA a.val + (5 - a.val - 1) := by decide
theorem idx_pair : ∀ a b : Fin 5, a.val < b.val → pairI ((idxA a.val + (b.val - a.val - 1)) * 2) = a.val ∧ pairI ((idxA a.val + (b.val - a.val - 1)) * 2 + 1) = b.val ∧ idxA a.val + (b.val - a.val - 1) ≤ 9 := by decide
def lowK (q : Nat → Int) : Nat → Nat → Int
  | 0 => zeroN
  | k + 1 => upd (lowK q k) k (q k + 32)
theorem toL_bd (x : Int) : 0 ≤ toL x ∧ toL x ≤ 82 := by unfold toL; repeat (first | (exact ⟨by decide, by decide⟩) | split)
def rowAt (n c : Nat) : Nat → Int := if c ≤ n / 96 then qr (row3 n) else qr (row4 n)


end Go.Proofs.Ytpheapolijhgjaa
