/- The rows of the seat: what the laid table of functions gives; the witness's world. Under no conditions. -/
import Derived.Test.YtmbgmefmkjeahaaDoorRows
import Derived.Test.YtmbgmefmkjeahaaDoorC15Rt13
import Derived.Test.YtmbgmefmkjeahaaDoorC15W0
import Derived.ProofKit
import Derived.LaidMore
import Derived.Stop.Joined
set_option maxRecDepth 100000
namespace Go.Proofs.YtmbgmefmkjeahaaDoor.Rt
open Go Go.RowKit Go.ChangeShapes Go.WideShapes Go.ChangeAt
theorem own : ownKnob Tryd.prog.godebug = none := by kernel_rfl
theorem gTab : Tryd.prog.globalNamed "remontoir/slave.signs" = some 0 := by kernel_rfl
theorem tTab : (Tryd.prog.globals[0]?).map (·.type) = some 134 := by kernel_rfl
theorem cellsF : Tryd.prog.cellsOf 133 = 1 := by kernel_rfl
theorem cellsA : Tryd.prog.cellsOf 134 = 2 := by kernel_rfl
def laid : List (String × DataW Unit) := [("remontoir/slave.signs", Rows.laid_remontoir_slave_signs)]
theorem door_met (os : Os) (args : Array Value) : laidMetH Tryd.prog laid ((World.doorLaid Tryd.prog 600 os).forCall (fun _ _ => 0) ⟨#[], args, []⟩).memory :=
  laidMetH_of_parts3 (fuel := 8) (laidMet_of_run' 8 (by kernel_rfl) (by kernel_rfl)) (by kernel_rfl) (by kernel_rfl)
theorem glob_of {W : World} (h : laidMetH Tryd.prog laid W) : Glob (Heap W) := by
  obtain ⟨g, t, cs, fuel, p, hg, ht, hv, hd⟩ := h.funcs (List.mem_singleton.2 rfl)
  obtain rfl := Option.some.inj (gTab.symm.trans hg)
  obtain rfl := Option.some.inj (tTab.symm.trans ht)
  obtain ⟨xs, m, _, hx, hlen, hn, hel⟩ := DataW.trod_array Tryd.underlying134 hd
  rw [cellsA] at hlen
  have e0 := hel 0 (by decide)
  have e1 := hel 1 (by decide)
  rw [cellsF] at e0 e1
  match xs, hn, hx, e0, e1 with
  | [x0, x1], _, hx, e0, e1 =>
    have hx1 : DataW.agg [x0.1, x1.1] = DataW.funcsOut (.agg [.iface "func" (.lit (.string [40, 114, 101, 109, 111, 110, 116, 111, 105, 114, 47, 115, 108, 97, 118, 101, 46, 108, 105, 110, 101, 41, 46, 115, 101, 110, 116])), .iface "func" (.lit (.string [40, 114, 101, 109, 111, 110, 116, 111, 105, 114, 47, 115, 108, 97, 118, 101, 46, 108, 105, 110, 101, 41, 46, 104, 111, 109, 101, 115]))]) := (congrArg Prod.fst hx).symm
    have hx2 : [x0.1, x1.1] = [DataW.held [40, 114, 101, 109, 111, 110, 116, 111, 105, 114, 47, 115, 108, 97, 118, 101, 46, 108, 105, 110, 101, 41, 46, 115, 101, 110, 116], DataW.held [40, 114, 101, 109, 111, 110, 116, 111, 105, 114, 47, 115, 108, 97, 118, 101, 46, 108, 105, 110, 101, 41, 46, 104, 111, 109, 101, 115]] := by
      injection hx1
    obtain ⟨d0, q0⟩ := x0
    obtain ⟨d1, q1⟩ := x1
    simp only [List.cons.injEq, and_true] at hx2
    obtain ⟨rfl, rfl⟩ := hx2
    obtain ⟨l⟩ := cs
    match l, hlen with
    | [c0, c1], _ =>
      obtain rfl := func_of_trod (f0 := 114) Tryd.underlying133 (by kernel_rfl) (v := c0) e0
      obtain rfl := func_of_trod (f0 := 115) Tryd.underlying133 (by kernel_rfl) (v := c1) e1
      simp only [World.var?, hg, Option.bind_some] at hv
      split at hv
      · rename_i cs' E fr hh
        injection hv with hv
        subst hv
        exact ⟨E, fr, hh⟩
      · cases hv
end Go.Proofs.YtmbgmefmkjeahaaDoor.Rt
