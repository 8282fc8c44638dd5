/- The walks of the reference's functions that punch numbers. -/
import Derived.Test.YtcbjfgjlhjjpiaaDoorPutL
import Derived.Test.YtcbjfgjlhjjpiaaDoorField
import Derived.Test.YtcbjfgjlhjjpiaaDoorCopy
import Derived.Deep.RegionWith
import Derived.IntWalk
namespace Go.Proofs.YtcbjfgjlhjjpiaaDoor
open Go.RowKit
set_option maxRecDepth 100000
set_option linter.unusedVariables false
set_option linter.unusedSimpArgs false
set_option linter.unnecessarySimpa false

end Go.Proofs.YtcbjfgjlhjjpiaaDoor
