/- What the pure function of a law comes to. Under no conditions. -/
import Derived.Test.YtmbgmefmkjeahaaDoorC4L4
import Derived.Test.YtmbgmefmkjeahaaDoorC4PT
set_option linter.unusedVariables false
set_option linter.unusedSimpArgs false
set_option maxRecDepth 100000
set_option maxHeartbeats 4000000
namespace Go.Proofs.YtmbgmefmkjeahaaDoor.Rt
open Go Go.RowKit
theorem pure_4 (l : SlaveLine) (who : Int) (story : (List (List Int))) (h1 : Ok_SlaveLine l) (h2 : InR who) (h3 : OkL (OkL InR) story) : w7SlaveStories l who story (fun b => b = true) := by
  refine Tells.is (m := w7SlaveStories l who story) ?_
  unfold w7SlaveStories
  have hst : ∀ r ∈ story, (r.length : Int) ≤ 9223372036854775807 := fun r hr => (h3.2 r hr).1
  refine tdet (isStory_eq h1 who story hst) (tdet (IsStory_eq h1 who story hst) ?_)
  rw [bne_self_eq_false, bne_self_eq_false, Bool.or_false, cond_false]
  refine tbnd (Story_tells h1 who) fun r hr => tdet (Lost_eq h1 who) ?_
  have e2 : r.2 = (lostF l who).2 := by
    rw [hr.err]; unfold lostF; split
    · next h => exact h
    · rfl
  rw [e2, bneI, decide_eq_false (fun h => h rfl), cond_false, bneI]
  by_cases h0 : (lostF l who).2 = 0
  · rw [decide_eq_false (fun h => h h0), cond_false]
    obtain ⟨w, rfl, hw, hS, hc, ⟨s, hs⟩, hn⟩ := hr.is (by rw [e2]; exact h0)
    obtain ⟨b1, b2, b3, b4⟩ := hs.bd hS
    have h10 := hS.e
    have hask : askF l (w : Int) = 0 := by rw [← hr.err, e2]; exact h0
    refine tdet (IsStory_eq h1 _ _ fun r hr => by have := b4 r hr; omega) (tdet (a := true) ?_ (fin_tells rfl))
    have e3 : isF l (w : Int) r.1 = (true, 0) := by
      unfold isF
      rw [if_pos hS.good, if_pos (by rw [inB_iff]; omega), Int.toNat_natCast, (isB_iff hS hw _).2 ⟨s, hs⟩]
    rw [e3, cond_true, lostIn_eq _ (by omega) (fun r hr => by have := b4 r hr; omega), bind_s, hn]
    unfold lostF
    rw [if_pos hask, Int.toNat_natCast]
    simp
  · rw [decide_eq_true h0, cond_true]
    have e3 := hr.no (by rw [e2]; exact h0)
    exact fin_tells (by rw [e3]; rfl)
end Go.Proofs.YtmbgmefmkjeahaaDoor.Rt
