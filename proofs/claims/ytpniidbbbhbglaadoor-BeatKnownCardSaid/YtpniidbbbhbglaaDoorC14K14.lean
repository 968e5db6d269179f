/- Walks of the functions of this seat: what each Go function comes to, as a Lean function, and the proof. The card of a law. Under no conditions. -/
import Derived.Test.YtpniidbbbhbglaaDoorC14R14
import Derived.Test.YtpniidbbbhbglaaDoorTie
import Derived.Test.YtpniidbbbhbglaaDoorCards
import Derived.SevenTiedAt
set_option linter.unusedVariables false
set_option linter.unusedSimpArgs false
set_option maxRecDepth 100000
set_option maxHeartbeats 4000000
namespace Go.Proofs.YtpniidbbbhbglaaDoor.Rt
open Go Go.RowKit
theorem plain_14 (f : FuncId) (fn : Func) (hf : Tryd.pinned.checked.prog.funcNamed "remontoir/remontoirlaw02.BeatKnown" = some f) (hfn : Tryd.pinned.checked.prog.funcs[f]? = some fn) :
    false = Tryd.pinned.checked.prog.looks [] ∧ ∀ (j : Nat) t, fn.params[j]? = some t → Tryd.pinned.checked.prog.wantsStandIn t = false := by
  obtain rfl : f = 14 := Option.some.inj ((show Tryd.prog.funcNamed "remontoir/remontoirlaw02.BeatKnown" = some 14 by kernel_rfl).symm.trans hf) |>.symm
  obtain rfl : fn = Tryd.f14 := (Option.some.inj (Tryd.func14.symm.trans hfn)).symm
  refine ⟨by kernel_rfl, fun j t ht => ?_⟩
  rw [Tryd.params14] at ht
  have hm := Array.mem_of_getElem? ht
  simp at hm
theorem card_14 : Rows.BeatKnownCardSaid :=
  Claim7.holds_tied_plain_at .later [] _ _ _ _ said_14 (fun _ h => by cases h) (by kernel_rfl) (fun _ h => by cases h) beatKnown_row_tie rfl ⟨rfl, rfl⟩ (by kernel_rfl) rfl plain_14 (by kernel_rfl)
end Go.Proofs.YtpniidbbbhbglaaDoor.Rt
