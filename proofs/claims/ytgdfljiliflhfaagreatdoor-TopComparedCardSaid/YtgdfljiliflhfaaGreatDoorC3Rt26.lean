/- The small program logic of this seat, part 26: what a callee hands over to which own slices were lent. Under no conditions but those that each rule names. -/
import Derived.Test.YtgdfljiliflhfaaGreatDoorC3Rt24
set_option linter.unusedVariables false
set_option linter.unusedSimpArgs false
set_option maxRecDepth 100000
namespace Go.Proofs.YtgdfljiliflhfaaGreatDoor.Rt
open Go Go.RowKit
section
variable {w0 w w':World} {D0 D D':Stab} {ls ms:List (Nat × LR)}
end
end Go.Proofs.YtgdfljiliflhfaaGreatDoor.Rt
