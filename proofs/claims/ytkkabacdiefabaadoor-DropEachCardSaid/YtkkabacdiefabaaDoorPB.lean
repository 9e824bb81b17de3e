/- Walks of board: square, Put; of the reference: Put. -/
import Derived.Test.YtkkabacdiefabaaDoorPK
import Derived.Test.YtkkabacdiefabaaDoorQ
namespace Go.Proofs.YtkkabacdiefabaaDoor
open Go Go.RowKit

/-- A piece, or none, put on a square. -/
def putOk (s x : Int) : Bool := decide (0 ≤ s ∧ s < 64) && (x == 0 || isB x)
def putN (n : Nat → Int) (s x : Int) : Nat → Int := if putOk s x = true then upd n (1 + s.toNat) x else n




end Go.Proofs.YtkkabacdiefabaaDoor
