/- A program logic of this seat's own, part 19: make with a capacity; maps of slices that the call owns. Under no conditions but those that each names. -/
import Derived.Test.YtgdfljiliflhfaaGreatDoorC3Rt18
set_option linter.unusedVariables false
set_option linter.unusedSimpArgs false
namespace Go.Proofs.YtgdfljiliflhfaaGreatDoor.Rt
open Go Go.RowKit Go.ChangeShapes Go.WideShapes
section
variable {P:Program} {N:Nat} {rs:List Nat} {r:Option Nat} {vs:List (Nat × Value)} {a:Act} {w w0:World} {ops:Array Oper} {Q:Exit→Act→World→Prop} {rest:List Oper}
variable {d:Nat} {ty:TypeId} {pos:String} {aft:Array Edge} {D0 D:Stab} {ls:List (Nat × LR)}
end
end Go.Proofs.YtgdfljiliflhfaaGreatDoor.Rt
