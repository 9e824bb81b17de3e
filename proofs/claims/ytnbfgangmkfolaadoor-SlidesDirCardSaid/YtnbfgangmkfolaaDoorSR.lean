/- Walks of the reference of squares: File, Rank, Of, apart, Distance, Flip. -/
import Derived.Test.YtnbfgangmkfolaaDoorS
import Derived.Test.YtnbfgangmkfolaaDoorRows
namespace Go.Proofs.YtnbfgangmkfolaaDoor
open Go Go.RowKit







end Go.Proofs.YtnbfgangmkfolaaDoor
