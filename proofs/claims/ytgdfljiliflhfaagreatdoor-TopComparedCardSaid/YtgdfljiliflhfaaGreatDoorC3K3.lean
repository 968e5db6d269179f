/- Walks of the functions of this seat: what each Go function comes to, as a Lean function, and the proof. The card of a law. Under no conditions. -/
import Derived.Test.YtgdfljiliflhfaaGreatDoorC3R3
import Derived.Test.YtgdfljiliflhfaaGreatDoorTie
import Derived.Test.YtgdfljiliflhfaaGreatDoorCards
import Derived.SevenTiedAt
set_option linter.unusedVariables false
set_option linter.unusedSimpArgs false
set_option maxRecDepth 100000
set_option maxHeartbeats 4000000
namespace Go.Proofs.YtgdfljiliflhfaaGreatDoor.Rt
open Go Go.RowKit
theorem plain_3 (f : FuncId) (fn : Func) (hf : Tryz.pinned.checked.prog.funcNamed "remontoir/remontoirtop.TopCompared" = some f) (hfn : Tryz.pinned.checked.prog.funcs[f]? = some fn) :
    false=Tryz.pinned.checked.prog.looks []∧∀ (j:Nat) t,fn.params[j]?=some t→Tryz.pinned.checked.prog.wantsStandIn t=false:=by
  obtain rfl : f = 3 := Option.some.inj ((show Tryz.prog.funcNamed "remontoir/remontoirtop.TopCompared" = some 3 by kernel_rfl).symm.trans hf) |>.symm
  obtain rfl:fn=Tryz.f3:=(Option.some.inj (Tryz.func3.symm.trans hfn)).symm
  refine ⟨by kernel_rfl,fun j t ht=>?_⟩
  rw [Tryz.params3] at ht
  have hm:=Array.mem_of_getElem? ht
  simp only [List.mem_toArray,List.mem_cons,List.not_mem_nil,or_false] at hm
  rcases hm with rfl | rfl | rfl | rfl
  · exact (show Tryz.prog.wantsStandIn 25=false by kernel_rfl)
  · exact (show Tryz.prog.wantsStandIn 28=false by kernel_rfl)
  · exact (show Tryz.prog.wantsStandIn 29=false by kernel_rfl)
  · exact (show Tryz.prog.wantsStandIn 30=false by kernel_rfl)
theorem card_3:Rows.TopComparedCardSaid:=
  Claim7.holds_tied_plain_at .later [] _ _ _ _ said_3 (fun _ h=>by cases h) (by kernel_rfl) (fun _ h=>by cases h) topCompared_row_tie rfl ⟨rfl,rfl⟩ (by kernel_rfl) rfl plain_3 (by kernel_rfl)
end Go.Proofs.YtgdfljiliflhfaaGreatDoor.Rt
