/- What the pure function of a law comes to. Under no conditions. -/
import Derived.Test.YtmbgmefmkjeahaaDoorC3L3
import Derived.Test.YtmbgmefmkjeahaaDoorC3PT
set_option linter.unusedVariables false
set_option linter.unusedSimpArgs false
set_option maxRecDepth 100000
set_option maxHeartbeats 4000000
namespace Go.Proofs.YtmbgmefmkjeahaaDoor.Rt
open Go Go.RowKit
theorem pure_3 (l : SlaveLine) (who : Int) (h1 : Ok_SlaveLine l) (h2 : InR who) : remontoirlaw07_SlaveCans l who (fun b => b = true) := by
  refine Tells.is (m := remontoirlaw07_SlaveCans l who) ?_
  unfold remontoirlaw07_SlaveCans
  have hcl := canF_len l who
  refine tbnd (Can_tells h1 who) fun r1 e1 => ?_
  subst e1
  refine tdet (Can_eq h1 who) (tdet (Alike_eq _ _ (by omega)) (tdet (a := false) (by simp) (tdet (a := false) ?_ ?_)))
  · rw [cond_false, slave_Check_eq l h1, bind_s, Check_eq l h1, bind_s]; simp
  · rw [cond_false]
    refine tbnd (Lost_tells h1 who) fun r5 e5 => ?_
    subst e5
    exact tdet (Lost_eq h1 who) (fin_tells (by simp))
end Go.Proofs.YtmbgmefmkjeahaaDoor.Rt
