/- Walks of the functions of this seat: what each Go function comes to, as a Lean function, and the proof. The card of a law. Under no conditions. -/
import Derived.Test.YtmbgmefmkjeahaaDoorC15R15
import Derived.Test.YtmbgmefmkjeahaaDoorTie
import Derived.Test.YtmbgmefmkjeahaaDoorCards
import Derived.SevenTiedAt
set_option linter.unusedVariables false
set_option linter.unusedSimpArgs false
set_option maxRecDepth 100000
set_option maxHeartbeats 4000000
namespace Go.Proofs.YtmbgmefmkjeahaaDoor.Rt
open Go Go.RowKit
theorem plain_15 (f : FuncId) (fn : Func) (hf : Tryd.pinned.checked.prog.funcNamed "remontoir/remontoirlaw07.SlaveKnown" = some f) (hfn : Tryd.pinned.checked.prog.funcs[f]? = some fn) :
    false = Tryd.pinned.checked.prog.looks [] ∧ ∀ (j : Nat) t, fn.params[j]? = some t → Tryd.pinned.checked.prog.wantsStandIn t = false := by
  obtain rfl : f = 15 := Option.some.inj ((show Tryd.prog.funcNamed "remontoir/remontoirlaw07.SlaveKnown" = some 15 by kernel_rfl).symm.trans hf) |>.symm
  obtain rfl : fn = Tryd.f15 := (Option.some.inj (Tryd.func15.symm.trans hfn)).symm
  refine ⟨by kernel_rfl, fun j t ht => ?_⟩
  rw [Tryd.params15] at ht
  have hm := Array.mem_of_getElem? ht
  simp at hm
theorem card_15 : Rows.SlaveKnownCardSaid :=
  Claim7.holds_tied_plain_at .later [] _ _ _ _ said_15 (fun _ h => by cases h) (by kernel_rfl) (fun _ h => by cases h) slaveKnown_row_tie rfl ⟨rfl, rfl⟩ (by kernel_rfl) rfl plain_15 (by kernel_rfl)
end Go.Proofs.YtmbgmefmkjeahaaDoor.Rt
