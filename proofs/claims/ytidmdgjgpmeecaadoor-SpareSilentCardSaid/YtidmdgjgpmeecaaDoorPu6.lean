/- What the pure function of a law comes to. Under the conditions that it names. -/
import Derived.Test.YtidmdgjgpmeecaaDoorL6
import Derived.Test.YtidmdgjgpmeecaaDoorPI
set_option linter.unusedVariables false
set_option linter.unusedSimpArgs false
set_option maxRecDepth 100000
set_option maxHeartbeats 4000000
namespace Go.Proofs.YtidmdgjgpmeecaaDoor.Rt
open Go Go.RowKit
theorem pure_6 (sv : SpareStore) (plan : (List SpareTurn)) (lives : (List Int)) (hs : Ok_SpareStore sv) (hp : OkL Ok_SpareTurn plan) (hl : OkL InR lives) : remontoirlaw08_SpareSilent sv plan lives = some true := by
  unfold remontoirlaw08_SpareSilent
  have hl2 : ((silentF sv plan lives).1.length : Int) ≤ 1000000000000 := by
    unfold silentF
    split
    · rename_i hg
      have hS := OkS.of hg
      split
      · have := silentN_len plan lives sv.Hours.toNat; have := hS.h2; simp only; omega
      · decide
    · decide
  simp only [Silent_eq sv hs plan hp lives hl.1, rSilent_eq sv hs plan hp.1 lives hl.1, works_eq, bind_s, Alike_eq _ _ hl2, beq_self_eq_true, decide_true, Bool.and_self, cond_true]
end Go.Proofs.YtidmdgjgpmeecaaDoor.Rt
