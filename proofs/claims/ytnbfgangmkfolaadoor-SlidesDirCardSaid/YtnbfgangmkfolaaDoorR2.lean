/- Walks of the reference of bits: List, Step. -/
import Derived.Test.YtnbfgangmkfolaaDoorR1
import Derived.Test.YtnbfgangmkfolaaDoorOwn
import Derived.Test.YtnbfgangmkfolaaDoorU2
namespace Go.Proofs.YtnbfgangmkfolaaDoor
open Go Go.RowKit

def natI (l : List Nat) : List Int := l.map (fun k : Nat => (k : Int))


end Go.Proofs.YtnbfgangmkfolaaDoor
