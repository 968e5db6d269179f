/- Walks of the functions of this seat: what each Go function comes to, as a Lean function, and the proof. The row of a law. Under no conditions. -/
import Derived.Test.YtmbgmefmkjeahaaDoorC14L14
import Derived.Test.YtmbgmefmkjeahaaDoorC14O0
import Derived.Test.YtmbgmefmkjeahaaDoorC14B0
import Derived.Test.YtmbgmefmkjeahaaDoorC14Pu14
set_option linter.unusedVariables false
set_option linter.unusedSimpArgs false
set_option maxRecDepth 100000
set_option maxHeartbeats 4000000
namespace Go.Proofs.YtmbgmefmkjeahaaDoor.Rt
open Go Go.RowKit Go.ChangeShapes Go.WideShapes Go.ChangeAt
theorem contract_14 (H : Type) (enc : TypeId × Value → H) (W : World) (base : Nat) (args : Array Value) (ds gs : List (DataW H)) (before : List MemPlace)
    (hval : ∀ (j : Nat) t v, Tryd.f14.params[j]? = some t → args[j]? = some v → Value.okWide Tryd.prog W .any base t v)
    (hW : DataW.Whole enc Tryd.prog Tryd.f14.params.toList Rows.slaveHomedSpec.vars false W args.toList ds gs before) (hL : laidMetH Tryd.prog laid W) :
    Calls Tryd.prog 14 args W fun e W2 => ∃ v, e = .returned v ∧ Rows.slaveHomedSpec.post enc Tryd.prog Tryd.f14 false true false false W args v W2 := by
  have hW2 := hW
  obtain ⟨p, q, hA0, hV, rfl, hfz, hnd⟩ := hW
  have hA : DataW.TrodAll enc Tryd.prog W 0 (fun _ => true) true Tryd.f14.params.toList args.toList ds p := hA0
  rw [Tryd.params14] at hA hval
  obtain ⟨v0, vs0, d0, ds0, p0, q0, hargs, rfl, rfl, h0, r0⟩ := trodAll_cons hA
  obtain ⟨v1, vs1, d1, ds1, p1, q1, rfl, rfl, rfl, h1, r1⟩ := trodAll_cons r0
  obtain ⟨rfl, rfl, rfl⟩ := trodAll_nil r1
  obtain rfl : args = #[v0, v1] := by cases args; simp_all
  obtain ⟨rfl, rfl⟩ := trodVars_none hV
  obtain ⟨y0, cs0, rfl, k0, o0⟩ := arg_agg op_25 (by kernel_rfl) (hval 0 25 v0 rfl rfl) h0
  obtain ⟨z0_0, z0_1, z0_2, z0_3, rfl, s0_0, s0_1⟩ := C_SlaveLine.open k0
  obtain ⟨y1, rfl, o1⟩ := arg_int u_3 (hval 1 3 v1 rfl rfl) h1
  have walk := w7SlaveHomed_ok (w0 := W) Heap.on y0 y1 s0_0 s0_1 (glob_of hL) (fun b => b = true) (pure_14 y0 y1 o0 o1)
  refine walk.mono fun e W3 hR => ?_
  obtain ⟨_, rfl, rfl, hB, _⟩ := hR
  exact ⟨_, rfl, close_law (by kernel_rfl) (by kernel_rfl) hW2 rfl rfl (by kernel_rfl) u_4 hB⟩
set_option maxRecDepth 100000 in
theorem lifted_14 (os : Os) (started : os.Started) (H : Type) (enc : TypeId × Value → H) :
    ReturnsInHanded {} Tryd.checked os 14 .any (fun w args => (Rows.slaveHomedSpec.pre enc Tryd.prog Tryd.f14 [] false w args ∧ laidMetH Tryd.prog laid w) ∧ sizedMet enc Tryd.prog Tryd.f14 (OpenSpec.ofChange Rows.slaveHomedSpec) false w args)
      (Rows.slaveHomedSpec.post enc Tryd.prog Tryd.f14 false true false false) := by
  refine returnsInHanded_of_change_and (C := Tryd.checked) (X := fun w _ => laidMetH Tryd.prog laid w) (fun _ _ _ hh h => h.of_heap hh) own started (by kernel_rfl) Tryd.func14
    (ChangeSpec.witness_shaped (enc := enc) (C := Tryd.checked) (os := os) (X := fun w _ => laidMetH Tryd.prog laid w) false (World.doorLaid Tryd.prog 600 os) #[.agg #[.int .i64 0, .slice none 0 0, .slice none 0 0], .int .i64 0] 8 rfl (World.shaped_of_RefB (by kernel_rfl) (by kernel_rfl)) (by kernel_rfl) (by kernel_rfl) (by kernel_rfl) (door_met os _)) ?_
  intro W base args ds gs before hval0 hW _ _ hL _
  exact contract_14 H enc W base args ds gs before hval0 hW hL
theorem said_14 : Rows.SlaveHomedSaid :=
  OpenClaim.holds_of_wide 14 Tryd.f14 rfl rfl rfl rfl rfl rfl rfl ⟨rfl, rfl, rfl, rfl, rfl⟩ rfl rfl rfl rfl rfl (by kernel_rfl) Tryd.func14 (by kernel_rfl)
    (of_decide_eq_true (by kernel_rfl)) (by unfold Func.isWrapper; first | (rw [if_pos (by decide +kernel)]; kernel_rfl) | (rw [if_neg (by decide +kernel)]; exact ⟨rfl, rfl⟩))
    (fun os started H enc _ => lifted_14 os started H enc)
end Go.Proofs.YtmbgmefmkjeahaaDoor.Rt
