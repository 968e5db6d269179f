/- What the pure function of a law comes to. Under the conditions that it names. -/
import Derived.Test.YtidmdgjgpmeecaaDoorL5
import Derived.Test.YtidmdgjgpmeecaaDoorPI
set_option linter.unusedVariables false
set_option linter.unusedSimpArgs false
set_option maxRecDepth 100000
set_option maxHeartbeats 4000000
namespace Go.Proofs.YtidmdgjgpmeecaaDoor.Rt
open Go Go.RowKit
theorem pure_5 (sv : SpareStore) (hs : Ok_SpareStore sv) : remontoirlaw08_SpareReaches sv = some true := by
  unfold remontoirlaw08_SpareReaches
  have hl : ((needF sv).1.length : Int) ≤ 1000000000000 := by
    unfold needF
    split
    · rename_i hg
      have hS := OkS.of hg
      split
      · decide
      · have := needN_len sv sv.Machines.length; have := hS.n2; simp only; omega
    · decide
  simp only [Reach_eq sv hs, rReach_eq sv hs, Need_eq sv hs, rNeed_eq sv hs, Pair_eq sv hs, rPair_eq sv hs, works_eq, bind_s, Alike_eq _ _ hl, bne_self_eq_false, beq_self_eq_true, Bool.or_self, cond_false, Bool.and_self, cond_true, decide_true, Bool.not_true]
end Go.Proofs.YtidmdgjgpmeecaaDoor.Rt
