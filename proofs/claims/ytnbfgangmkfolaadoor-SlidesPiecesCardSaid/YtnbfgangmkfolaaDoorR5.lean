/- Walk of the reference of bits: Of. -/
import Derived.Test.YtnbfgangmkfolaaDoorR2
namespace Go.Proofs.YtnbfgangmkfolaaDoor
open Go Go.RowKit


end Go.Proofs.YtnbfgangmkfolaaDoor
