/- What the pure function of a law comes to. Under no conditions. -/
import Derived.Test.YthdbokigcfbgeaaDoorC4L4
import Derived.Test.YthdbokigcfbgeaaDoorC4QJ
set_option linter.unusedVariables false
set_option linter.unusedSimpArgs false
set_option maxRecDepth 100000
set_option maxHeartbeats 4000000
namespace Go.Proofs.YthdbokigcfbgeaaDoor.Rt
open Go Go.RowKit
theorem pure_4 (n : LineNet) (k : Arr2) (h : Ok_LineNet n) (_ : Ok_Arr2 k) : remontoirlaw06_LineDelays n k = some true := by
  have bnI : ∀ a : Int, (a != a) = false := fun a => by rw [bneI]; exact decide_eq_false fun h => h rfl
  have beI : ∀ a : Int, (a == a) = true := fun a => by rw [beqI]; exact decide_eq_true rfl
  have bnB : ∀ a : Bool, (a != a) = false := fun a => by cases a <;> rfl
  unfold remontoirlaw06_LineDelays
  rw [Delay_eq h, bind_s, refDelay_eq h, bind_s, beq_self_eq_true, bnI, Bool.not_true, Bool.or_false, cond_false, Can_eq h, bind_s, refCan_eq h, bind_s, bnB, bnI, Bool.or_false, cond_false, Correct_eq h, bind_s, refCorrect_eq h, bind_s, beI, beI, beI, Bool.and_true, Bool.and_true, cond_true, works_eq]
  rfl
end Go.Proofs.YthdbokigcfbgeaaDoor.Rt
