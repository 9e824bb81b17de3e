/- Walks of the reference of bits: List, Step. -/
import Derived.Test.YtloncbjkipjepaaR1
import Derived.Test.YtloncbjkipjepaaOwn
import Derived.Test.YtloncbjkipjepaaU2
namespace Go.Proofs.Ytloncbjkipjepaa
open Go Go.RowKit

def natI (l : List Nat) : List Int := l.map (fun k : Nat => (k : Int))


end Go.Proofs.Ytloncbjkipjepaa
