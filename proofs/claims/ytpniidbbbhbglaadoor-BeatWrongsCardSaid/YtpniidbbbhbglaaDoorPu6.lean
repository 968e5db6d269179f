/- What the pure function of the law BeatWrongs comes to. Under the conditions that the arguments are Go's. -/
import Derived.Test.YtpniidbbbhbglaaDoorL6
import Derived.Test.YtpniidbbbhbglaaDoorPD
import Derived.Test.YtpniidbbbhbglaaDoorPQ
set_option linter.unusedVariables false
set_option linter.unusedSimpArgs false
set_option maxRecDepth 100000
set_option maxHeartbeats 4000000
namespace Go.Proofs.YtpniidbbbhbglaaDoor.Rt
open Go Go.RowKit

theorem pure_6 (c : BeatCellar) (hour : Int) (hc : Ok_BeatCellar c) (_ : InR hour) : remontoirlaw02_BeatWrongs c hour = some true := by
  unfold remontoirlaw02_BeatWrongs
  have hl : ∀ r, beat_Wrong c = some r → (r.1.length : Int) ≤ 9223372036854775807 := by
    intro r hr
    rw [Wrong_eq c hc] at hr
    injection hr with hr
    subst hr
    cases hx : goodB c with
    | false => simp
    | true =>
      simp only [if_true]
      cases hw : wrongF c with
      | none => simp
      | some q =>
        have hC := OkC.of hx
        have k2 := hC.k2
        have := (facts_of hC.k1 hC.k2).mem q (List.mem_of_find?_eq_some hw)
        simp only
        rw [this.2.2]
        have := listN_len q.2 c.Rates.length
        omega
  obtain ⟨r, hr⟩ : ∃ r, beat_Wrong c = some r := ⟨_, Wrong_eq c hc⟩
  obtain ⟨s, hs⟩ : ∃ s, beat_Best c hour = some s := ⟨_, Best_eq c hc hour⟩
  simp only [ref_Wrong_eq c hc, ref_Best_eq c hc, hr, hs, bind_s, Alike_eq r.1 r.1 (hl r hr), works_eq]
  simp [bind_s]
end Go.Proofs.YtpniidbbbhbglaaDoor.Rt
