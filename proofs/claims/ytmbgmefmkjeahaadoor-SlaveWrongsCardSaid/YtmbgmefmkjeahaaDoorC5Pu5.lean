/- What the pure function of a law comes to. Under no conditions. -/
import Derived.Test.YtmbgmefmkjeahaaDoorC5L5
import Derived.Test.YtmbgmefmkjeahaaDoorC5PT
set_option linter.unusedVariables false
set_option linter.unusedSimpArgs false
set_option maxRecDepth 100000
set_option maxHeartbeats 4000000
namespace Go.Proofs.YtmbgmefmkjeahaaDoor.Rt
open Go Go.RowKit
theorem WrongR.len {l : SlaveLine} {r : List Int × Int} (h : WrongR l r) : (r.1.length : Int) ≤ 10 := by
  cases hg : goodB l with
  | false => rw [h.bad hg]; simp
  | true =>
    have hS := OkS.of hg
    have h10 := hS.e
    have := (h.good hg).2.sub.length_le
    have := looksN_len l l.Events.length
    unfold looksF at *
    omega
theorem pure_5 (l : SlaveLine) (lost : Int) (h1 : Ok_SlaveLine l) (h2 : InR lost) : w7SlaveWrongs l lost (fun b => b = true) := by
  refine Tells.is (m := w7SlaveWrongs l lost) ?_
  unfold w7SlaveWrongs
  refine tbnd (Wrong_tells h1) fun r hr => ?_
  obtain ⟨q, hq, hW⟩ := Wrong_eq h1
  obtain rfl := hr.uniq hW
  have hl := hr.len
  refine tdet hq (tdet (Alike_eq _ _ (by omega)) ?_)
  rw [decide_eq_true rfl, bne_self_eq_false, Bool.not_true, Bool.or_false, cond_false]
  refine tbnd (Homes_tells h1 lost) fun r3 e3 => ?_
  subst e3
  exact tdet (Homes_eq h1 lost) (fin_tells (by simp))
end Go.Proofs.YtmbgmefmkjeahaaDoor.Rt
