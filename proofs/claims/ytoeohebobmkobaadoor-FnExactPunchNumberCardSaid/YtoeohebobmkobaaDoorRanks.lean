/- The walks of the functions on ranks of characters. -/
import Derived.Test.YtoeohebobmkobaaDoorCodes
namespace Go.Proofs.YtoeohebobmkobaaDoor
open Go.RowKit
set_option maxRecDepth 100000


end Go.Proofs.YtoeohebobmkobaaDoor
