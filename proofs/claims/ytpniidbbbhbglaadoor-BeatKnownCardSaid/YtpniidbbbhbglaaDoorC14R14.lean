/- Walks of the functions of this seat: what each Go function comes to, as a Lean function, and the proof. The row of a law. Under no conditions. -/
import Derived.Test.YtpniidbbbhbglaaDoorC14L14
import Derived.Test.YtpniidbbbhbglaaDoorC14O0
import Derived.Test.YtpniidbbbhbglaaDoorC14B0
import Derived.Test.YtpniidbbbhbglaaDoorC14Pu14
set_option linter.unusedVariables false
set_option linter.unusedSimpArgs false
set_option maxRecDepth 100000
set_option maxHeartbeats 4000000
namespace Go.Proofs.YtpniidbbbhbglaaDoor.Rt
open Go Go.RowKit Go.ChangeShapes Go.WideShapes Go.ChangeAt
theorem contract_14 (H : Type) (enc : TypeId × Value → H) (W : World) (base : Nat) (args : Array Value) (ds gs : List (DataW H)) (before : List MemPlace)
    (hval : ∀ (j : Nat) t v, Tryd.f14.params[j]? = some t → args[j]? = some v → Value.okWide Tryd.prog W .any base t v)
    (hW : DataW.Whole enc Tryd.prog Tryd.f14.params.toList Rows.beatKnownSpec.vars false W args.toList ds gs before) (hL : laidMetH Tryd.prog laid W) :
    Calls Tryd.prog 14 args W fun e W2 => ∃ v, e = .returned v ∧ Rows.beatKnownSpec.post enc Tryd.prog Tryd.f14 false true false false W args v W2 := by
  have hW2 := hW
  obtain ⟨p, q, hA0, hV, rfl, hfz, hnd⟩ := hW
  have hA : DataW.TrodAll enc Tryd.prog W 0 (fun _ => true) true Tryd.f14.params.toList args.toList ds p := hA0
  rw [Tryd.params14] at hA hval
  obtain ⟨hargs, rfl, rfl⟩ := trodAll_nil hA
  obtain rfl : args = #[] := by cases args; simp_all
  obtain ⟨rfl, rfl⟩ := trodVars_none hV
  have walk := remontoirlaw02_BeatKnown_ok (w0 := W) Heap.on  (glob_of hL) true (pure_14  )
  refine walk.mono fun e W3 hR => ?_
  obtain ⟨rfl, hB, _⟩ := hR
  exact ⟨_, rfl, close_law (by kernel_rfl) (by kernel_rfl) hW2 rfl rfl (by kernel_rfl) u_4 hB⟩
set_option maxRecDepth 100000 in
theorem lifted_14 (os : Os) (started : os.Started) (H : Type) (enc : TypeId × Value → H) :
    ReturnsInHanded {} Tryd.checked os 14 .any (fun w args => (Rows.beatKnownSpec.pre enc Tryd.prog Tryd.f14 [] false w args ∧ laidMetH Tryd.prog laid w) ∧ sizedMet enc Tryd.prog Tryd.f14 (OpenSpec.ofChange Rows.beatKnownSpec) false w args)
      (Rows.beatKnownSpec.post enc Tryd.prog Tryd.f14 false true false false) := by
  refine returnsInHanded_of_change_and (C := Tryd.checked) (X := fun w _ => laidMetH Tryd.prog laid w) (fun _ _ _ hh h => h.of_heap hh) own started (by kernel_rfl) Tryd.func14
    (ChangeSpec.witness_shaped (enc := enc) (C := Tryd.checked) (os := os) (X := fun w _ => laidMetH Tryd.prog laid w) false (World.doorLaid Tryd.prog 600 os) #[] 8 rfl (World.shaped_of_RefB (by kernel_rfl) (by kernel_rfl)) (by kernel_rfl) (by kernel_rfl) (by kernel_rfl) (door_met os _)) ?_
  intro W base args ds gs before hval0 hW _ _ hL _
  exact contract_14 H enc W base args ds gs before hval0 hW hL
theorem said_14 : Rows.BeatKnownSaid :=
  OpenClaim.holds_of_wide 14 Tryd.f14 rfl rfl rfl rfl rfl rfl rfl ⟨rfl, rfl, rfl, rfl, rfl⟩ rfl rfl rfl rfl rfl (by kernel_rfl) Tryd.func14 (by kernel_rfl)
    (of_decide_eq_true (by kernel_rfl)) (by unfold Func.isWrapper; first | (rw [if_pos (by decide +kernel)]; kernel_rfl) | (rw [if_neg (by decide +kernel)]; exact ⟨rfl, rfl⟩))
    (fun os started H enc _ => lifted_14 os started H enc)
end Go.Proofs.YtpniidbbbhbglaaDoor.Rt
