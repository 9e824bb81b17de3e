/- The walk of eval.Side. -/
import Derived.Test.YtccdelpiflcipaaDoorE4
import Derived.Test.YtccdelpiflcipaaDoorB4
import Derived.Deep.LoopGhost
namespace Go.Proofs.YtccdelpiflcipaaDoor
open Go Go.RowKit
set_option linter.unusedVariables false

def kindsK (n : Nat → Int) (c : Int) : Nat → Int
  | 0 => 0
  | k + 1 => kindsK n c k + sqK n c ((k : Int) + 1) 64
theorem kinds_base (n : Nat → Int) (c : Int) : kindsK n c 6 = baseK n c 64 := by
  rw [← kinds_squares n c 64 (Nat.le_refl 64)]
  show 0 + sqK n c ((0 : Nat) + 1) 64 + sqK n c ((1 : Nat) + 1) 64 + sqK n c ((2 : Nat) + 1) 64 + sqK n c ((3 : Nat) + 1) 64 + sqK n c ((4 : Nat) + 1) 64 + sqK n c ((5 : Nat) + 1) 64 = _
  rw [Int.zero_add]; rfl
theorem sq_bd : ∀ k : Fin 64, 0 ≤ sqI (k.val : Int) ∧ sqI (k.val : Int) ≤ 3 := by decide +kernel
theorem val_bd (c k : Int) (j : Nat) (hj : j < 64) : -12 ≤ valI c k j ∧ valI c k j ≤ 942 := by
  obtain ⟨h1, h2⟩ := sq_bd ⟨j, hj⟩
  obtain ⟨h3, h4⟩ := wort_bd k
  simp only at h1 h2
  unfold valI
  split
  · split <;> omega
  · omega
theorem sqK_bd (n : Nat → Int) (c k : Int) : ∀ j : Nat, j ≤ 64 → -12 * (j : Int) ≤ sqK n c k j ∧ sqK n c k j ≤ 942 * (j : Int)
  | 0, _ => ⟨Int.le_refl 0, Int.le_refl 0⟩
  | j + 1, hj => by
    obtain ⟨h1, h2⟩ := sqK_bd n c k j (by omega)
    obtain ⟨h3, h4⟩ := val_bd c k j (by omega)
    unfold sqK
    split <;> omega
theorem kindsK_bd (n : Nat → Int) (c : Int) : ∀ k : Nat, k ≤ 6 → -1000 * (k : Int) ≤ kindsK n c k ∧ kindsK n c k ≤ 61000 * (k : Int)
  | 0, _ => ⟨Int.le_refl 0, Int.le_refl 0⟩
  | k + 1, hk => by
    obtain ⟨h1, h2⟩ := kindsK_bd n c k (by omega)
    obtain ⟨h3, h4⟩ := sqK_bd n c ((k : Int) + 1) 64 (Nat.le_refl 64)
    unfold kindsK
    omega
theorem sum_take (f : Int → Int) (l : List Int) (j : Nat) (hj : j < l.length) : sumK f (l.take (j + 1)) = sumK f (l.take j) + f l[j] := by
  rw [List.take_succ_eq_append_getElem hj, sum_app]
  show _ + (f l[j] + 0) = _
  omega
theorem sum_bd (c k : Int) : ∀ l : List Int, (∀ x ∈ l, 0 ≤ x ∧ x < 64) → -12 * (l.length : Int) ≤ sumK (valI c k) l ∧ sumK (valI c k) l ≤ 942 * (l.length : Int)
  | [], _ => ⟨Int.le_refl 0, Int.le_refl 0⟩
  | x :: l, h => by
    obtain ⟨h1, h2⟩ := sum_bd c k l (fun y hy => h y (List.mem_cons_of_mem _ hy))
    obtain ⟨x0, x1⟩ := h x (List.mem_cons_self ..)
    obtain ⟨h3, h4⟩ := val_bd c k x.toNat (by omega)
    rw [show ((x.toNat : Nat) : Int) = x by omega] at h3 h4
    show -12 * ((l.length + 1 : Nat) : Int) ≤ valI c k x + sumK (valI c k) l ∧ valI c k x + sumK (valI c k) l ≤ 942 * ((l.length + 1 : Nat) : Int)
    omega

end Go.Proofs.YtccdelpiflcipaaDoor
