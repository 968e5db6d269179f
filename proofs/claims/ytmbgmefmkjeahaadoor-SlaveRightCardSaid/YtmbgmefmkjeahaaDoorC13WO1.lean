/- Walks of the functions of this seat: what each Go function comes to, as a Lean function, and the proof. Part WO1. Under no conditions. -/
import Derived.Test.YtmbgmefmkjeahaaDoorC13WNZ
set_option linter.unusedVariables false
set_option linter.unusedSimpArgs false
set_option maxRecDepth 100000
set_option maxHeartbeats 4000000
namespace Go.Proofs.YtmbgmefmkjeahaaDoor.Rt
open Go Go.RowKit
noncomputable def w7pulses (p : SlavePlan) : Option Int :=
  cond (decide (p.Pre < 0))
  (some (wr (p.Home + p.Send)))
  (some (wr ((wr (p.Home + p.Send)) + 1)))
theorem w7pulses_ok {w0 : World} {D0 : Stab} (hD : D0.on w0) (p : SlavePlan) (out : Int) (h : w7pulses p = some out) : Calls Tryd.prog 51 [.agg #[.int .i64 p.Pre, .int .i64 p.Home, .int .i64 p.First, .int .i64 p.Send]].toArray w0 (RetP D0 w0 (.int .i64 out)) := by
 refine enter _ 17 Tryd.func51 rfl Tryd.ntmps51 rfl fun a hF => ?_
 replace hF : Frm 17 [] [(0, .agg #[.int .i64 p.Pre, .int .i64 p.Home, .int .i64 p.First, .int .i64 p.Send])] a := hF
 have hS := St.start hD
 unfold w7pulses at h
 refine seq (region (O.box (cs := [.int .i64 p.Pre, .int .i64 p.Home, .int .i64 p.First, .int .i64 p.Send]) 1 hF rfl rfl hS rfl fun b a w hF hS => step hF (Y.assign hF rfl) rfl fun a hF => nil (then_n (seq (seq (region (step hF (Y.fieldAddr fo_49_0 hF rfl) rfl fun a hF => step hF (Y.load1L 1 sz_3 hF rfl hS rfl rfl) rfl fun a hF => step hF (Y.lss hF rfl rfl) rfl fun a hF => nil (then_n (cond_b hF rfl (fun hbv => ?_) (fun hbv => ?_))))))))))
 ·replace h := cond_t h hbv
  refine seq (region (step hF (Y.fieldAddr fo_49_1 hF rfl) rfl fun a hF => step hF (Y.load1L 1 sz_3 hF rfl hS rfl rfl) rfl fun a hF => step hF (Y.fieldAddr fo_49_3 hF rfl) rfl fun a hF => step hF (Y.load1L 1 sz_3 hF rfl hS rfl rfl) rfl fun a hF => step hF (Y.add hF rfl rfl) rfl fun a hF => step hF (Y.assign hF rfl) rfl fun a hF => nil (then_n (ret_ (then_r ?_)))))
  obtain rfl := some_inj h
  exact leaveP Tryd.results51 hF hS (.cons (.tmp rfl) .nil) .nil rfl
 replace h := cond_f h hbv
 refine skip_ (then_n (seq (region (step hF (Y.fieldAddr fo_49_1 hF rfl) rfl fun a hF => step hF (Y.load1L 1 sz_3 hF rfl hS rfl rfl) rfl fun a hF => step hF (Y.fieldAddr fo_49_3 hF rfl) rfl fun a hF => step hF (Y.load1L 1 sz_3 hF rfl hS rfl rfl) rfl fun a hF => step hF (Y.add hF rfl rfl) rfl fun a hF => step hF (Y.add hF rfl rfl) rfl fun a hF => step hF (Y.assign hF rfl) rfl fun a hF => nil (then_n (ret_ ?_))))))
 obtain rfl := some_inj h
 exact leaveP Tryd.results51 hF hS (.cons (.tmp rfl) .nil) .nil rfl
end Go.Proofs.YtmbgmefmkjeahaaDoor.Rt
