/- cmp.Compare at int. -/
import Derived.Test.YtgimpbcdgfkdmaaLib
import Derived.Test.YtgimpbcdgfkdmaaRows
import Derived.Handy
namespace Go.Proofs.Ytgimpbcdgfkdmaa
open Go.RowKit

def cmpI (a b : Int) : Int := if a < b then -1 else if b < a then 1 else 0

end Go.Proofs.Ytgimpbcdgfkdmaa
