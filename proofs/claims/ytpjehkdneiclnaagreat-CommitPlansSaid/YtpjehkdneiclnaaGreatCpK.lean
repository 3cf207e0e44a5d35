import Derived.Test.YtpjehkdneiclnaaGreatCpB
import Derived.Shelf.Sort.Plain
import Derived.Shelf.Slices.In.SortNone
set_option linter.unusedVariables false
set_option linter.unusedSimpArgs false
set_option maxHeartbeats 4000000
set_option maxRecDepth 100000
namespace Go.Wc
open Go Go.Sort
end Go.Wc
