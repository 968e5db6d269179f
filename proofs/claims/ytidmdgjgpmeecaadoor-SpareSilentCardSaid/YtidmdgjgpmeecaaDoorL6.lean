/- Walks of the functions of this seat: what each Go function comes to, as a Lean function, and the proof. A law. Under no conditions. -/
import Derived.Test.YtidmdgjgpmeecaaDoorWRZ
set_option linter.unusedVariables false
set_option linter.unusedSimpArgs false
set_option maxRecDepth 100000
set_option maxHeartbeats 4000000
namespace Go.Proofs.YtidmdgjgpmeecaaDoor.Rt
open Go Go.RowKit
noncomputable def remontoirlaw08_SpareSilent (sv : SpareStore) (plan : (List SpareTurn)) (lives : (List Int)) : Option Bool :=
  (spare_Silent sv plan lives).bind fun rv =>
  (remontoirref08_Silent sv plan lives).bind fun rv_1 =>
  (remontoirref00_Alike rv.1 rv_1.1).bind fun rv_2 =>
  (cond (rv_2 && (rv.2 == rv_1.2)) ((remontoirlaw08_works).bind fun rv_3 =>
  some rv_3) (some false)).bind fun t =>
  some t
theorem remontoirlaw08_SpareSilent_ok {w0 : World} {D0 : Stab} (hD : D0.on w0) (sv : SpareStore) (plan : (List SpareTurn)) (lives : (List Int)) {p : Option Addr} {c : Nat} {p_1 : Option Addr} {c_1 : Nat} {p_2 : Option Addr} {c_2 : Nat} (hs : SRc C_SpareMachine D0 sv.Machines p c) (hs_1 : SRc C_SpareTurn D0 plan p_1 c_1) (hs_2 : SRc C_int D0 lives p_2 c_2) (hG : Glob D0) (out : Bool) (h : remontoirlaw08_SpareSilent sv plan lives = some out) : Calls Tryd.prog 6 [.agg #[.int .i64 sv.Hours, .int .i64 sv.Gap, .slice p sv.Machines.length c], .slice p_1 plan.length c_1, .slice p_2 lives.length c_2].toArray w0 (RetP D0 w0 (.bool out)) := by
 refine enter _ 36 Tryd.func6 rfl Tryd.ntmps6 rfl fun a hF => ?_
 replace hF : Frm 36 [] [(0, .agg #[.int .i64 sv.Hours, .int .i64 sv.Gap, .slice p sv.Machines.length c]), (1, .slice p_1 plan.length c_1), (2, .slice p_2 lives.length c_2)] a := hF
 have hS := St.start hD
 unfold remontoirlaw08_SpareSilent at h
 refine seq ?_
 refine region ?_
 refine O.box (cs := [.int .i64 sv.Hours, .int .i64 sv.Gap, .slice p sv.Machines.length c]) 1 hF rfl rfl hS rfl fun b a w hF hS => ?_
 refine step hF (Y.assign hF rfl) rfl fun a hF => ?_
 refine nil (then_n ?_)
 refine seq ?_
 refine region ?_
 refine step hF (Y.loadNL 1 sz_24 hF rfl hS rfl rfl rfl) rfl fun a hF => ?_
 refine step hF (Y.move hF rfl) rfl fun a hF => ?_
 refine step hF (Y.move hF rfl) rfl fun a hF => ?_
 obtain ⟨rv, hx, h⟩ := bind_some h
 refine O.callS (us := [.agg #[.int .i64 sv.Hours, .int .i64 sv.Gap, .slice p sv.Machines.length c], .slice p_1 plan.length c_1, .slice p_2 lives.length c_2]) ca_32 hF hS (spare_Silent_ok hS.stab sv plan lives hs hs_1 hs_2 rv hx) rfl rfl fun v Dv a w hR hlev hF hS => ?_
 replace hs := hs.mono hlev
 replace hs_1 := hs_1.mono hlev
 replace hs_2 := hs_2.mono hlev
 replace hG := hG.mono hlev
 obtain ⟨p_3, c_3, rfl, hs_3⟩ := hR
 refine step hF (Y.move hF rfl) rfl fun a hF => ?_
 refine step hF (Y.extract hF rfl rfl) rfl fun a hF => ?_
 refine step hF (Y.extract hF rfl rfl) rfl fun a hF => ?_
 refine step hF (Y.assign hF rfl) rfl fun a hF => ?_
 refine step hF (Y.assign hF rfl) rfl fun a hF => ?_
 refine nil (then_n ?_)
 refine seq ?_
 refine region ?_
 refine step hF (Y.loadNL 1 sz_24 hF rfl hS rfl rfl rfl) rfl fun a hF => ?_
 refine step hF (Y.move hF rfl) rfl fun a hF => ?_
 refine step hF (Y.move hF rfl) rfl fun a hF => ?_
 obtain ⟨rv_1, hx_1, h⟩ := bind_some h
 refine O.callS (us := [.agg #[.int .i64 sv.Hours, .int .i64 sv.Gap, .slice p sv.Machines.length c], .slice p_1 plan.length c_1, .slice p_2 lives.length c_2]) ca_33 hF hS (remontoirref08_Silent_ok hS.stab sv plan lives hs hs_1 hs_2 rv_1 hx_1) rfl rfl fun v_1 Dv_1 a w hR_1 hlev_1 hF hS => ?_
 replace hs := hs.mono hlev_1
 replace hs_1 := hs_1.mono hlev_1
 replace hs_2 := hs_2.mono hlev_1
 replace hG := hG.mono hlev_1
 replace hs_3 := hs_3.mono hlev_1
 obtain ⟨p_4, c_4, rfl, hs_4⟩ := hR_1
 refine step hF (Y.move hF rfl) rfl fun a hF => ?_
 refine step hF (Y.extract hF rfl rfl) rfl fun a hF => ?_
 refine step hF (Y.extract hF rfl rfl) rfl fun a hF => ?_
 refine step hF (Y.assign hF rfl) rfl fun a hF => ?_
 refine step hF (Y.assign hF rfl) rfl fun a hF => ?_
 refine nil (then_n ?_)
 refine seq ?_
 refine region ?_
 refine step hF (Y.move hF rfl) rfl fun a hF => ?_
 refine step hF (Y.move hF rfl) rfl fun a hF => ?_
 obtain ⟨rv_2, hx_2, h⟩ := bind_some h
 refine O.callP (us := [.slice p_3 rv.1.length c_3, .slice p_4 rv_1.1.length c_4]) ca_29 hF hS (remontoirref00_Alike_ok hS.stab rv.1 rv_1.1 hs_3 hs_4 rv_2 hx_2) rfl rfl fun a w hF hS => ?_
 refine step hF (Y.move hF rfl) rfl fun a hF => ?_
 refine join (N := 36) (rs := []) (w0 := w0) (D0 := D0) 4 (us := [(6, .bool false), (32, .bool (rv_2 && (rv.2 == rv_1.2)))]) (ms := [(1, .cells b [.int .i64 sv.Hours, .int .i64 sv.Gap, .slice p sv.Machines.length c] 24)]) (D' := Dv_1) ?_ ?_
 ·rcases bcases rv_2 with hbv | hbv
  ·-- true
   refine guard_on hF rfl rfl hbv ?_
   refine step hF (Y.move hF rfl) rfl fun a hF => ?_
   refine guard_on hF rfl rfl hbv ?_
   refine step hF (Y.move hF rfl) rfl fun a hF => ?_
   refine guard_on hF rfl rfl hbv ?_
   refine step hF (Y.eql hF rfl rfl) rfl fun a hF => ?_
   refine step hF (Y.pick_t hF rfl hbv rfl) rfl fun a hF => ?_
   exact nil (then_n ⟨hF.weak ⟨rfl, (by rw [hbv]; rfl), trivial⟩, hS.weak ⟨rfl, trivial⟩⟩)
  ·-- false
   refine guard_off hF rfl rfl hbv rfl fun a hF => ?_
   refine guard_off hF rfl rfl hbv rfl fun a hF => ?_
   refine guard_off hF rfl rfl hbv rfl fun a hF => ?_
   refine step hF (Y.pick_f hF rfl hbv rfl) rfl fun a hF => ?_
   exact nil (then_n ⟨hF.weak ⟨rfl, (by rw [hbv]; rfl), trivial⟩, hS.weak ⟨rfl, trivial⟩⟩)
 intro a w hF hS
 refine step hF (Y.move hF rfl) rfl fun a hF => ?_
 obtain ⟨t, ht, h⟩ := bind_some h
 refine join (N := 36) (rs := []) (w0 := w0) (D0 := D0) 2 (us := [(6, .bool false), (35, .bool t)]) (ms := [(1, .cells b [.int .i64 sv.Hours, .int .i64 sv.Gap, .slice p sv.Machines.length c] 24)]) (D' := Dv_1) ?_ ?_
 ·rcases bcases (rv_2 && (rv.2 == rv_1.2)) with hbv_1 | hbv_1
  ·-- true
   replace h := cond_t ht hbv_1
   refine guard_on hF rfl rfl hbv_1 ?_
   obtain ⟨rv_3, hx_3, h⟩ := bind_some h
   refine O.callP (us := []) ca_21 hF hS (remontoirlaw08_works_ok hS.stab hG rv_3 hx_3) rfl rfl fun a w hF hS => ?_
   refine step hF (Y.pick_t hF rfl hbv_1 rfl) rfl fun a hF => ?_
   obtain rfl := some_inj h
   exact nil (then_n ⟨hF.weak ⟨rfl, rfl, trivial⟩, hS.weak ⟨rfl, trivial⟩⟩)
  ·-- false
   replace h := cond_f ht hbv_1
   refine guard_off hF rfl rfl hbv_1 rfl fun a hF => ?_
   refine step hF (Y.pick_f hF rfl hbv_1 rfl) rfl fun a hF => ?_
   obtain rfl := some_inj h
   exact nil (then_n ⟨hF.weak ⟨rfl, rfl, trivial⟩, hS.weak ⟨rfl, trivial⟩⟩)
 intro a w hF hS
 refine step hF (Y.assign hF rfl) rfl fun a hF => ?_
 refine nil (then_n ?_)
 refine ret_ ?_
 obtain rfl := some_inj h
 exact leaveP Tryd.results6 hF hS (.cons (.tmp rfl) .nil) .nil rfl

end Go.Proofs.YtidmdgjgpmeecaaDoor.Rt
