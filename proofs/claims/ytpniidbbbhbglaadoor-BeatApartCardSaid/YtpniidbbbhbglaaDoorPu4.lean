/- What the pure function of the law BeatApart comes to. Under the conditions that the arguments are Go's. -/
import Derived.Test.YtpniidbbbhbglaaDoorL4
import Derived.Test.YtpniidbbbhbglaaDoorPD
import Derived.Test.YtpniidbbbhbglaaDoorPR
set_option linter.unusedVariables false
set_option linter.unusedSimpArgs false
set_option maxRecDepth 100000
set_option maxHeartbeats 4000000
namespace Go.Proofs.YtpniidbbbhbglaaDoor.Rt
open Go Go.RowKit

theorem pure_4 (c : BeatCellar) (n : Arr3) (m : Arr3) (hc : Ok_BeatCellar c) (_ : Ok_Arr3 n) (_ : Ok_Arr3 m) : remontoirlaw02_BeatApart c n m = some true := by
  unfold remontoirlaw02_BeatApart
  simp only [ref_Apart_eq c hc, ref_Drift_eq c hc, Apart_eq c hc, Drift_eq c hc, bind_s, works_eq]
  simp [bind_s]
end Go.Proofs.YtpniidbbbhbglaaDoor.Rt
