/- slices.Concat at bytes and at tokens; slices.Grow of nothing. -/
import Derived.Test.YtkekjddkbmmckaaGreatTokQ
import Derived.Test.YtkekjddkbmmckaaGreatConcatH
import Derived.Lib.AppendZerosOnto
import Derived.Lib.Walk
namespace Go.Proofs.YtkekjddkbmmckaaGreat
open Go.RowKit Go.Mh

end Go.Proofs.YtkekjddkbmmckaaGreat
