/- The walks of the functions on ranks of characters. -/
import Derived.Test.YtcbjfgjlhjjpiaaDoorCodes
namespace Go.Proofs.YtcbjfgjlhjjpiaaDoor
open Go.RowKit
set_option maxRecDepth 100000


end Go.Proofs.YtcbjfgjlhjjpiaaDoor
