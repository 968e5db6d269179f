/- Walks of the functions of this seat: what each Go function comes to, as a Lean function, and the proof. The row of a law. Under no conditions. -/
import Derived.Test.YtmbgmefmkjeahaaDoorC15L15
import Derived.Test.YtmbgmefmkjeahaaDoorC15O0
import Derived.Test.YtmbgmefmkjeahaaDoorC15B0
import Derived.Test.YtmbgmefmkjeahaaDoorC15Pu15
set_option linter.unusedVariables false
set_option linter.unusedSimpArgs false
set_option maxRecDepth 100000
set_option maxHeartbeats 4000000
namespace Go.Proofs.YtmbgmefmkjeahaaDoor.Rt
open Go Go.RowKit Go.ChangeShapes Go.WideShapes Go.ChangeAt
theorem contract_15 (H : Type) (enc : TypeId × Value → H) (W : World) (base : Nat) (args : Array Value) (ds gs : List (DataW H)) (before : List MemPlace)
    (hval : ∀ (j : Nat) t v, Tryd.f15.params[j]? = some t → args[j]? = some v → Value.okWide Tryd.prog W .any base t v)
    (hW : DataW.Whole enc Tryd.prog Tryd.f15.params.toList Rows.slaveKnownSpec.vars false W args.toList ds gs before) (hL : laidMetH Tryd.prog laid W) :
    Calls Tryd.prog 15 args W fun e W2 => ∃ v, e = .returned v ∧ Rows.slaveKnownSpec.post enc Tryd.prog Tryd.f15 false true false false W args v W2 := by
  have hW2 := hW
  obtain ⟨p, q, hA0, hV, rfl, hfz, hnd⟩ := hW
  have hA : DataW.TrodAll enc Tryd.prog W 0 (fun _ => true) true Tryd.f15.params.toList args.toList ds p := hA0
  rw [Tryd.params15] at hA hval
  obtain ⟨hargs, rfl, rfl⟩ := trodAll_nil hA
  obtain rfl : args = #[] := by cases args; simp_all
  obtain ⟨rfl, rfl⟩ := trodVars_none hV
  have walk := w7SlaveKnown_ok (w0 := W) Heap.on  (glob_of hL) (fun b => b = true) (pure_15  )
  refine walk.mono fun e W3 hR => ?_
  obtain ⟨_, rfl, rfl, hB, _⟩ := hR
  exact ⟨_, rfl, close_law (by kernel_rfl) (by kernel_rfl) hW2 rfl rfl (by kernel_rfl) u_4 hB⟩
set_option maxRecDepth 100000 in
theorem lifted_15 (os : Os) (started : os.Started) (H : Type) (enc : TypeId × Value → H) :
    ReturnsInHanded {} Tryd.checked os 15 .any (fun w args => (Rows.slaveKnownSpec.pre enc Tryd.prog Tryd.f15 [] false w args ∧ laidMetH Tryd.prog laid w) ∧ sizedMet enc Tryd.prog Tryd.f15 (OpenSpec.ofChange Rows.slaveKnownSpec) false w args)
      (Rows.slaveKnownSpec.post enc Tryd.prog Tryd.f15 false true false false) := by
  refine returnsInHanded_of_change_and (C := Tryd.checked) (X := fun w _ => laidMetH Tryd.prog laid w) (fun _ _ _ hh h => h.of_heap hh) own started (by kernel_rfl) Tryd.func15
    (ChangeSpec.witness_shaped (enc := enc) (C := Tryd.checked) (os := os) (X := fun w _ => laidMetH Tryd.prog laid w) false (World.doorLaid Tryd.prog 600 os) #[] 8 rfl (World.shaped_of_RefB (by kernel_rfl) (by kernel_rfl)) (by kernel_rfl) (by kernel_rfl) (by kernel_rfl) (door_met os _)) ?_
  intro W base args ds gs before hval0 hW _ _ hL _
  exact contract_15 H enc W base args ds gs before hval0 hW hL
theorem said_15 : Rows.SlaveKnownSaid :=
  OpenClaim.holds_of_wide 15 Tryd.f15 rfl rfl rfl rfl rfl rfl rfl ⟨rfl, rfl, rfl, rfl, rfl⟩ rfl rfl rfl rfl rfl (by kernel_rfl) Tryd.func15 (by kernel_rfl)
    (of_decide_eq_true (by kernel_rfl)) (by unfold Func.isWrapper; first | (rw [if_pos (by decide +kernel)]; kernel_rfl) | (rw [if_neg (by decide +kernel)]; exact ⟨rfl, rfl⟩))
    (fun os started H enc _ => lifted_15 os started H enc)
end Go.Proofs.YtmbgmefmkjeahaaDoor.Rt
