/- doc.Runs. -/
import Derived.Test.YtckdlhgeelhnmaaGreatDoc
import Derived.IntWalk
namespace Go.Proofs.YtckdlhgeelhnmaaGreat
open Go.RowKit Go.Mh

end Go.Proofs.YtckdlhgeelhnmaaGreat
