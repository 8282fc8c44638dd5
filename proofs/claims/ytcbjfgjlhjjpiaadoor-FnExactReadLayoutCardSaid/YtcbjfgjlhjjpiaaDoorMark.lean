/- The walks of the functions that mark rows and ask for their marks: what each returns and which rows it writes. -/
import Derived.Test.YtcbjfgjlhjjpiaaDoorSame
namespace Go.Proofs.YtcbjfgjlhjjpiaaDoor
open Go.RowKit
set_option maxRecDepth 100000
set_option linter.unusedVariables false
set_option linter.unusedSimpArgs false
set_option linter.unnecessarySimpa false


end Go.Proofs.YtcbjfgjlhjjpiaaDoor
