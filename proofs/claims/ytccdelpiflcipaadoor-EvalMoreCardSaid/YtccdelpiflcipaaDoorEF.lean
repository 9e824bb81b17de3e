/- Facts of law 24's awake: what first positions and hand-made ones are worth. -/
import Derived.Test.YtccdelpiflcipaaDoorEC
import Derived.Test.YtccdelpiflcipaaDoorVT
namespace Go.Proofs.YtccdelpiflcipaaDoor
open Go Go.RowKit
set_option linter.unusedVariables false

theorem start24F : ∀ v : Fin 9, ∀ i : Fin 88, (Lit.int (kindAt i.val) (startN v.val i.val)).wf = true := by decide +kernel
theorem start24 (v : Nat) (h : v < 9) : PosOk (startN v) := fun i hi => start24F ⟨v, h⟩ ⟨i, hi⟩
theorem start24z : ∀ v : Fin 9, startN v.val 0 = v.val ∧ startN v.val 78 = 0 := by decide +kernel
theorem start24of : ∀ v : Fin 9, v.val ≠ 7 → ofW (startN v.val) v.val 0 = 0 := by decide +kernel
def epN : Nat → Int := upd zeroN 29 1
def eqN : Nat → Int := upd zeroN 1 2
def ebN : Nat → Int := upd (upd (upd zeroN 29 1) 1 2) 78 1
def eaN : Nat → Int := upd ebN 0 4
theorem epOk : PosOk epN := fun i hi => (by decide +kernel : ∀ i : Fin 88, (Lit.int (kindAt i.val) (epN i.val)).wf = true) ⟨i, hi⟩
theorem eqOk : PosOk eqN := fun i hi => (by decide +kernel : ∀ i : Fin 88, (Lit.int (kindAt i.val) (eqN i.val)).wf = true) ⟨i, hi⟩
theorem ebOk : PosOk ebN := fun i hi => (by decide +kernel : ∀ i : Fin 88, (Lit.int (kindAt i.val) (ebN i.val)).wf = true) ⟨i, hi⟩
theorem eaOk : PosOk eaN := fun i hi => (by decide +kernel : ∀ i : Fin 88, (Lit.int (kindAt i.val) (eaN i.val)).wf = true) ⟨i, hi⟩
theorem e24facts : worthI epN 0 0 = 118 ∧ worthI eqN 0 0 = 308 ∧ ofW ebN 0 1 = -426 ∧ ofW eaN 4 1 = 426 := by decide +kernel
theorem sq24 : sqI 0 = 3 ∧ sqI 27 = 0 ∧ sqI 18 = 1 ∧ sqI 39 = 3 ∧ sqI 64 = -1 := by decide +kernel

end Go.Proofs.YtccdelpiflcipaaDoor
