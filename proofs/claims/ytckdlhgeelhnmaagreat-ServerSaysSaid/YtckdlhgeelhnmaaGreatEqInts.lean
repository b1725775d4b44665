/- slices.Equal: at ints. -/
import Derived.Test.YtckdlhgeelhnmaaGreatCmp
namespace Go.Proofs.YtckdlhgeelhnmaaGreat
open Go.RowKit Go.Mh

end Go.Proofs.YtckdlhgeelhnmaaGreat
