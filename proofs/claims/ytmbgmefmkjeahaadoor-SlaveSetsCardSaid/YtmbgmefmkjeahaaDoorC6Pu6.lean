/- What the pure function of a law comes to. Under no conditions. -/
import Derived.Test.YtmbgmefmkjeahaaDoorC6L6
import Derived.Test.YtmbgmefmkjeahaaDoorC6PT
set_option linter.unusedVariables false
set_option linter.unusedSimpArgs false
set_option maxRecDepth 100000
set_option maxHeartbeats 4000000
namespace Go.Proofs.YtmbgmefmkjeahaaDoor.Rt
open Go Go.RowKit
theorem pure_6 (l : SlaveLine) (minute : Int) (p_2 : SlavePlan) (h1 : Ok_SlaveLine l) (h2 : InR minute) (h3 : Ok_SlavePlan p_2) : w7SlaveSets l minute p_2 (fun b => b = true) := by
  refine Tells.is (m := w7SlaveSets l minute p_2) ?_
  unfold w7SlaveSets
  refine tbnd (Sets_tells h1 minute p_2) fun r hr => ?_
  subst hr
  refine tdet (Sets_eq h1 minute p_2) ?_
  rw [bne_self_eq_false, bne_self_eq_false, Bool.or_false, cond_false]
  refine tbnd (Set_tells h1 minute) fun r2 hr2 => ?_
  obtain ⟨q, hq, hW⟩ := Set_eq h1 minute
  obtain rfl := hr2.uniq hW
  exact tdet hq (fin_tells (by simp))
end Go.Proofs.YtmbgmefmkjeahaaDoor.Rt
