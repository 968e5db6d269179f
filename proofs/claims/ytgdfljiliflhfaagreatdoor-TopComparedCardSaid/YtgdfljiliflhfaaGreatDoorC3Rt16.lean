/- The small program logic of this seat, part 16: computations whose results may be chosen among several, as predicates on what all of them fulfil; loops, calls and results for these. Under no conditions but those that each rule names. -/
import Derived.Test.YtgdfljiliflhfaaGreatDoorC3Rt15
set_option linter.unusedSimpArgs false
set_option linter.unusedVariables false
set_option maxRecDepth 100000
namespace Go.Proofs.YtgdfljiliflhfaaGreatDoor.Rt
open Go Go.RowKit
def ND (α:Type):Type:=(α→Prop)→Prop
section
variable {α β σ ρ:Type}
def ND.ret (a:α):ND α:=fun Q=>Q a
def ND.of (o:Option α):ND α:=fun Q=>∃ a,o=some a∧Q a
def ND.pick (l:List α):ND (Option α × List α):=fun Q=>(l=[]→Q (none,[]))∧∀ i (h:i < l.length),Q (some l[i],l.eraseIdx i)
end
section
variable {P:Program} {N:Nat} {rs:List Nat} {r:Option Nat} {vs:List (Nat × Value)} {a:Act} {w w0:World} {ops:Array Oper} {Q:Exit→Act→World→Prop} {rest:List Oper}
variable {d:Nat} {dst:Option Nat} {ty:TypeId} {pos:String} {aft:Array Edge} {gd:Option (Nat × Bool)} {D0 D:Stab} {ls:List (Nat × LR)} {ρ σ:Type}
end
end Go.Proofs.YtgdfljiliflhfaaGreatDoor.Rt
