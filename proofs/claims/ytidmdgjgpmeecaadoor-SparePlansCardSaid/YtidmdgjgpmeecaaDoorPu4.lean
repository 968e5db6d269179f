/- What the pure function of a law comes to. Under the conditions that it names. -/
import Derived.Test.YtidmdgjgpmeecaaDoorL4
import Derived.Test.YtidmdgjgpmeecaaDoorPI
set_option linter.unusedVariables false
set_option linter.unusedSimpArgs false
set_option maxRecDepth 100000
set_option maxHeartbeats 4000000
namespace Go.Proofs.YtidmdgjgpmeecaaDoor.Rt
open Go Go.RowKit
theorem pure_4 (sv : SpareStore) (hs : Ok_SpareStore sv) : remontoirlaw08_SparePlans sv = some true := by
  unfold remontoirlaw08_SparePlans
  simp only [Fewest_eq sv hs, rFewest_eq sv hs, works_eq, bind_s]
  unfold fewestF
  cases hg : goodB sv with
  | false => rw [Plan_bad sv hs hg]; rfl
  | true =>
    have hS := OkS.of hg
    simp only [if_true]
    rcases Plan_good hs hS with ⟨h1, h2⟩ | ⟨h1, l, h2, h3, h4⟩
    · rw [h2, if_pos h1]; rfl
    · have hfl := few_cases hS
      have hpl := (plan_iff sv l sv.Hours).2 h3
      rw [h2, if_neg h1]
      simp only [bind_s, rIsPlan_eq sv hs l (by omega)]
      unfold isPlanF
      rw [hg, hpl, h4]
      simp
end Go.Proofs.YtidmdgjgpmeecaaDoor.Rt
