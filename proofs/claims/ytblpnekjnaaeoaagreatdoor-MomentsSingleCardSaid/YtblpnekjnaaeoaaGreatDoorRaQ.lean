/- The string of a number, and its parts: plain. -/
import Derived.Test.YtblpnekjnaaeoaaGreatDoorPkG
import Derived.Lib.Bytealg
import Derived.Lib.Strings
set_option linter.unusedVariables false
set_option linter.unusedSimpArgs false
namespace Go.Proofs.YtblpnekjnaaeoaaGreatDoor
open Go.Lib

end Go.Proofs.YtblpnekjnaaeoaaGreatDoor
