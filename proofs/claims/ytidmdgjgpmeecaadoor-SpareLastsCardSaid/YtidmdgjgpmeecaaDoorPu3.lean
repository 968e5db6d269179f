/- What the pure function of a law comes to. Under the conditions that it names. -/
import Derived.Test.YtidmdgjgpmeecaaDoorL3
import Derived.Test.YtidmdgjgpmeecaaDoorPI
set_option linter.unusedVariables false
set_option linter.unusedSimpArgs false
set_option maxRecDepth 100000
set_option maxHeartbeats 4000000
namespace Go.Proofs.YtidmdgjgpmeecaaDoor.Rt
open Go Go.RowKit
theorem pure_3 (sv : SpareStore) (machine : Int) (plan : (List SpareTurn)) (hs : Ok_SpareStore sv) (_ : InR machine) (hp : OkL Ok_SpareTurn plan) : remontoirlaw08_SpareLasts sv machine plan = some true := by
  unfold remontoirlaw08_SpareLasts
  simp only [Lasts_eq sv hs, rLasts_eq sv hs, spare_Check_eq sv hs, Check_eq sv hs, IsPlan_eq sv hs plan hp, rIsPlan_eq sv hs plan hp.1, works_eq, bind_s, bne_self_eq_false, beq_self_eq_true, cond_false, Bool.and_self, cond_true]
end Go.Proofs.YtidmdgjgpmeecaaDoor.Rt
