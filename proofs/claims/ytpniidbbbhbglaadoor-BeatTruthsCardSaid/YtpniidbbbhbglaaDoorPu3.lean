/- What the pure function of the law BeatTruths comes to. Under the conditions that the arguments are Go's. -/
import Derived.Test.YtpniidbbbhbglaaDoorL3
import Derived.Test.YtpniidbbbhbglaaDoorPD
import Derived.Test.YtpniidbbbhbglaaDoorPR
set_option linter.unusedVariables false
set_option linter.unusedSimpArgs false
set_option maxRecDepth 100000
set_option maxHeartbeats 4000000
namespace Go.Proofs.YtpniidbbbhbglaaDoor.Rt
open Go Go.RowKit

theorem pure_3 (c : BeatCellar) (offsets : (List (List Int))) (n : Arr2) (hc : Ok_BeatCellar c) (ho : OkL (OkL InR) offsets) (_ : Ok_Arr2 n) : remontoirlaw02_BeatTruths c offsets n = some true := by
  unfold remontoirlaw02_BeatTruths
  simp only [IsTruth_eq c hc _ ho, ref_IsTruth_eq c hc _ ho, beat_Check_eq c hc, ref_Check_eq c hc, ref_Offset_eq c hc, Offset_eq c hc, bind_s, works_eq]
  simp [bind_s]
end Go.Proofs.YtpniidbbbhbglaaDoor.Rt
