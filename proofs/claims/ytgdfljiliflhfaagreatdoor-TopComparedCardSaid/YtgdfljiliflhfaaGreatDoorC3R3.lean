/- Walks of the functions of this seat: what each Go function comes to, as a Lean function, and the proof. The row of a law. Under no conditions. -/
import Derived.Test.YtgdfljiliflhfaaGreatDoorC3L3
import Derived.Test.YtgdfljiliflhfaaGreatDoorC3O0
import Derived.Test.YtgdfljiliflhfaaGreatDoorC3B0
import Derived.Test.YtgdfljiliflhfaaGreatDoorC3Pu3
set_option linter.unusedVariables false
set_option linter.unusedSimpArgs false
set_option maxRecDepth 100000
set_option maxHeartbeats 4000000
namespace Go.Proofs.YtgdfljiliflhfaaGreatDoor.Rt
open Go Go.RowKit Go.ChangeShapes Go.WideShapes Go.ChangeAt
theorem contract_3 (H:Type) (enc:TypeId × Value→H) (W:World) (base:Nat) (args:Array Value) (ds gs:List (DataW H)) (before:List MemPlace)
    (hval:∀ (j:Nat) t v,Tryz.f3.params[j]?=some t→args[j]?=some v→Value.okWide Tryz.prog W .any base t v)
    (hW:DataW.Whole enc Tryz.prog Tryz.f3.params.toList Rows.topComparedSpec.vars false W args.toList ds gs before) (hL:laidMetH Tryz.prog laid W):
    Calls Tryz.prog 3 args W fun e W2=>∃ v,e=.returned v∧Rows.topComparedSpec.post enc Tryz.prog Tryz.f3 false true false false W args v W2:=by
  have hW2:=hW
  obtain ⟨p,q,hA0,hV,rfl,hfz,hnd⟩:=hW
  have hA:DataW.TrodAll enc Tryz.prog W 0 (fun _=>true) true Tryz.f3.params.toList args.toList ds p:=hA0
  rw [Tryz.params3] at hA hval
  obtain ⟨v0,vs0,d0,ds0,p0,q0,hargs,rfl,rfl,h0,r0⟩:=trodAll_cons hA
  obtain ⟨v1,vs1,d1,ds1,p1,q1,rfl,rfl,rfl,h1,r1⟩:=trodAll_cons r0
  obtain ⟨v2,vs2,d2,ds2,p2,q2,rfl,rfl,rfl,h2,r2⟩:=trodAll_cons r1
  obtain ⟨v3,vs3,d3,ds3,p3,q3,rfl,rfl,rfl,h3,r3⟩:=trodAll_cons r2
  obtain ⟨rfl,rfl,rfl⟩:=trodAll_nil r3
  obtain rfl:args=#[v0,v1,v2,v3]:=by cases args;simp_all
  obtain ⟨rfl,rfl⟩:=trodVars_none hV
  obtain ⟨y0,cs0,rfl,k0,o0⟩:=arg_agg op_25 (by kernel_rfl) (hval 0 25 v0 rfl rfl) h0
  obtain ⟨z0_0,z0_1,z0_2,z0_3,rfl,s0_0,s0_1⟩:=C_LineNet.open k0
  obtain ⟨y1,cs1,rfl,k1,o1⟩:=arg_agg op_28 (by kernel_rfl) (hval 1 28 v1 rfl rfl) h1
  obtain rfl:=C_Arr2_Span.open k1
  obtain ⟨y2,cs2,rfl,k2,o2⟩:=arg_agg op_29 (by kernel_rfl) (hval 2 29 v2 rfl rfl) h2
  obtain rfl:=C_Arr4.open k2
  obtain ⟨y3,p3,c3,rfl,s3,o3⟩:=arg_sl u_30 op_30 (hval 3 30 v3 rfl rfl) h3
  have walk:=remontoirtop_TopCompared_ok (w0:=W) Heap.on y0 y1 y2 y3 s0_0 s0_1 s3 (glob_of hL) true (pure_3 y0 y1 y2 y3 o0 o1 o2 o3)
  refine walk.mono fun e W3 hR=>?_
  obtain ⟨rfl,hB,_⟩:=hR
  exact ⟨_,rfl,close_law (by kernel_rfl) (by kernel_rfl) hW2 rfl rfl (by kernel_rfl) u_4 hB⟩
set_option maxRecDepth 100000 in
theorem lifted_3 (os:Os) (started:os.Started) (H:Type) (enc:TypeId × Value→H):
    ReturnsInHanded {} Tryz.checked os 3 .any (fun w args=>(Rows.topComparedSpec.pre enc Tryz.prog Tryz.f3 [] false w args∧laidMetH Tryz.prog laid w)∧sizedMet enc Tryz.prog Tryz.f3 (OpenSpec.ofChange Rows.topComparedSpec) false w args)
      (Rows.topComparedSpec.post enc Tryz.prog Tryz.f3 false true false false):=by
  refine returnsInHanded_of_change_and (C:=Tryz.checked) (X:=fun w _=>laidMetH Tryz.prog laid w) (fun _ _ _ hh h=>h.of_heap hh) own started (by kernel_rfl) Tryz.func3
    (ChangeSpec.witness_shaped (enc:=enc) (C:=Tryz.checked) (os:=os) (X:=fun w _=>laidMetH Tryz.prog laid w) false (World.doorLaid Tryz.prog 600 os) #[.agg #[iv 0,.slice none 0 0,iv 0,.slice none 0 0],.agg #[iv 0,iv 0,iv 0,iv 0],.agg #[iv 0,iv 0,iv 0,iv 0],.slice none 0 0] 8 rfl (World.shaped_of_RefB (by kernel_rfl) (by kernel_rfl)) (by kernel_rfl) (by kernel_rfl) (by kernel_rfl) (door_met os _)) ?_
  intro W base args ds gs before hval0 hW _ _ hL _
  exact contract_3 H enc W base args ds gs before hval0 hW hL
theorem said_3:Rows.TopComparedSaid:=
  OpenClaim.holds_of_wide 3 Tryz.f3 rfl rfl rfl rfl rfl rfl rfl ⟨rfl,rfl,rfl,rfl,rfl⟩ rfl rfl rfl rfl rfl (by kernel_rfl) Tryz.func3 (by kernel_rfl)
    (of_decide_eq_true (by kernel_rfl)) (by unfold Func.isWrapper;first | (rw [if_pos (by decide +kernel)];kernel_rfl) | (rw [if_neg (by decide +kernel)];exact ⟨rfl,rfl⟩))
    (fun os started H enc _=>lifted_3 os started H enc)
end Go.Proofs.YtgdfljiliflhfaaGreatDoor.Rt
