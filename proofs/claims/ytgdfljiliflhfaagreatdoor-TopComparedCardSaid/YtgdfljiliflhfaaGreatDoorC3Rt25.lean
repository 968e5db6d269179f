/- The small program logic of this seat, part 25: the check of a tree of orders, reckoned with numbers as sets, for regions of many operations. Under no conditions but those that each rule names. -/
import Derived.Test.YtgdfljiliflhfaaGreatDoorC3Rt10
set_option linter.unusedVariables false
set_option linter.unusedSimpArgs false
set_option maxRecDepth 100000
namespace Go.Proofs.YtgdfljiliflhfaaGreatDoor.Rt
open Go Go.RowKit
structure ORel (N:Nat) (listed:Array Bool) (ls:Nat):Prop where
  size:listed.size=N
  at_:∀ k,k < N→listed.getD k true=ls.testBit k
  out:∀ k,N≤k→ls.testBit k=false
theorem ORel.f {N:Nat} {listed:Array Bool} {ls:Nat} (h:ORel N listed ls) (k:Nat):listed.getD k false=ls.testBit k:=by
  rcases Nat.lt_or_ge k N with hk | hk
  · rw [← h.at_ k hk]
    have:k < listed.size:=by rw [h.size];exact hk
    simp [Array.getD,this]
  · rw [h.out k hk]
    have:¬ k < listed.size:=by rw [h.size];omega
    simp [Array.getD,this]
theorem ORel.set {N:Nat} {listed:Array Bool} {ls i:Nat} (h:ORel N listed ls) (hi:i < N):ORel N (listed.setIfInBounds i true) (Nat.lor ls (Nat.pow 2 i)):=by
  refine ⟨by simp [h.size],fun k hk=>?_,fun k hk=>?_⟩
  · show _=(ls ||| 2 ^ i).testBit k
    rw [Nat.testBit_or,Nat.testBit_two_pow]
    by_cases e:i=k
    · subst e;simp [Array.getD,h.size,hi]
    · rw [getD_set_ne _ e,h.at_ k hk];simp [e]
  · show (ls ||| 2 ^ i).testBit k=false
    rw [Nat.testBit_or,Nat.testBit_two_pow,h.out k hk]
    simp;omega
section
variable {l:List Oper} {listed:Array Bool} {ls:Nat}
end
end Go.Proofs.YtgdfljiliflhfaaGreatDoor.Rt
