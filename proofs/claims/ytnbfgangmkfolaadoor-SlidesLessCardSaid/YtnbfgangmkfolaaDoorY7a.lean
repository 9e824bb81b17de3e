/- Finite facts of rays, for RaysOneLine: no program here. -/
import Derived.Test.YtnbfgangmkfolaaDoorY6
namespace Go.Proofs.YtnbfgangmkfolaaDoor
open Go

def pairOk (a b : Int) : Bool :=
  if lineB a b == 0#64 then betB a b == 0#64
  else hasB (lineB a b) a && hasB (lineB a b) b && (betB a b &&& ~~~lineB a b) == 0#64 && !hasB (betB a b) a && !hasB (betB a b) b && cntB (betB a b) == distI a b - 1
theorem pair_in : ∀ a b : Fin 64, pairOk (a.val : Int) (b.val : Int) = true := by decide +kernel
theorem dist_in : ∀ a b : Fin 64, a ≠ b → 1 ≤ distI (a.val : Int) (b.val : Int) := by decide +kernel
theorem on_ray_in : ∀ a : Fin 64, ∀ d : Fin 8, ∀ b : Fin 64, hasB (rayB (a.val : Int) (d.val : Int)) (b.val : Int) = (walkL (a.val : Int) (d.val : Int)).contains (b.val : Int) := by decide +kernel
def tripOk (a d : Int) : Bool :=
  (walkL a d).all fun b => (walkL a d).all fun c =>
    !hasB (rayB b ((d + 4) % 8)) c || (hasB (rayB c d) b && ((rayB a d &&& rayB c ((d + 4) % 8)) ||| (rayB c d &&& rayB b ((d + 4) % 8))) == clearB (rayB a d &&& rayB b ((d + 4) % 8)) c)
theorem trip_in : ∀ a : Fin 64, ∀ d : Fin 8, tripOk (a.val : Int) (d.val : Int) = true := by decide +kernel

end Go.Proofs.YtnbfgangmkfolaaDoor
