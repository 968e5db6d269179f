/- Types and facts of law BeatWider. Under no conditions. -/
import Derived.Test.YtpniidbbbhbglaaDoorW0
set_option linter.unusedVariables false
set_option linter.unusedSimpArgs false
set_option maxRecDepth 100000
set_option maxHeartbeats 4000000
namespace Go.Proofs.YtpniidbbbhbglaaDoor.Rt
open Go Go.RowKit
structure Arr5 where
  a0 : Int
  a1 : Int
  a2 : Int
  a3 : Int
  a4 : Int
def C_Arr5 : Codec Arr5 := ⟨5, fun _ x cs => cs = [.int .i64 x.a0, .int .i64 x.a1, .int .i64 x.a2, .int .i64 x.a3, .int .i64 x.a4], by rintro _ _ _ rfl; rfl, fun _ h => h, by rintro _ _ _ rfl; rfl⟩
theorem C_Arr5.open {D : Stab} {x : Arr5} {cs : List Value} (h : C_Arr5.rep D x cs) : cs = [.int .i64 x.a0, .int .i64 x.a1, .int .i64 x.a2, .int .i64 x.a3, .int .i64 x.a4] := h
theorem C_Arr5.mk {D : Stab} (x : Arr5) : C_Arr5.rep D x [.int .i64 x.a0, .int .i64 x.a1, .int .i64 x.a2, .int .i64 x.a3, .int .i64 x.a4] := rfl
theorem u_66 : Tryd.prog.underlying 66 = some (.array 5 3) := by kernel_rfl
theorem gr_22 : growable Tryd.prog 22 34 2 = true := by kernel_rfl
theorem cz_66 : Tryd.prog.cellsOf 66 = 5 := by kernel_rfl
end Go.Proofs.YtpniidbbbhbglaaDoor.Rt
