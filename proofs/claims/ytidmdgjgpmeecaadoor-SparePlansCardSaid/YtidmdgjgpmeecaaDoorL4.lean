/- Walks of the functions of this seat: what each Go function comes to, as a Lean function, and the proof. A law. Under no conditions. -/
import Derived.Test.YtidmdgjgpmeecaaDoorWRZ
set_option linter.unusedVariables false
set_option linter.unusedSimpArgs false
set_option maxRecDepth 100000
set_option maxHeartbeats 4000000
namespace Go.Proofs.YtidmdgjgpmeecaaDoor.Rt
open Go Go.RowKit
noncomputable def remontoirlaw08_SparePlans (sv : SpareStore) : Option Bool :=
  (spare_Fewest sv).bind fun rv =>
  (remontoirref08_Fewest sv).bind fun rv_1 =>
  (spare_Plan sv).bind fun rv_2 =>
  cond (((rv.1 != rv_1.1) || (rv.2 != rv_1.2)) || (rv_2.2 != rv_1.2))
  (some false)
  (cond (rv_1.2 != 0)
  ((cond ((rv_2.1.length : Int) == 0) ((remontoirlaw08_works).bind fun rv_3 =>
  some rv_3) (some false)).bind fun t =>
  some t)
  ((remontoirref08_IsPlan sv rv_2.1).bind fun rv_4 =>
  (cond (rv_4.1 && ((rv_2.1.length : Int) == rv_1.1)) ((remontoirlaw08_works).bind fun rv_5 =>
  some rv_5) (some false)).bind fun t_1 =>
  some t_1))
theorem remontoirlaw08_SparePlans_ok {w0 : World} {D0 : Stab} (hD : D0.on w0) (sv : SpareStore) {p : Option Addr} {c : Nat} (hs : SRc C_SpareMachine D0 sv.Machines p c) (hG : Glob D0) (out : Bool) (h : remontoirlaw08_SparePlans sv = some out) : Calls Tryd.prog 4 [.agg #[.int .i64 sv.Hours, .int .i64 sv.Gap, .slice p sv.Machines.length c]].toArray w0 (RetP D0 w0 (.bool out)) := by
 refine enter _ 63 Tryd.func4 rfl Tryd.ntmps4 rfl fun a hF => ?_
 replace hF : Frm 63 [] [(0, .agg #[.int .i64 sv.Hours, .int .i64 sv.Gap, .slice p sv.Machines.length c])] a := hF
 have hS := St.start hD
 unfold remontoirlaw08_SparePlans at h
 refine seq ?_
 refine region ?_
 refine O.box (cs := [.int .i64 sv.Hours, .int .i64 sv.Gap, .slice p sv.Machines.length c]) 1 hF rfl rfl hS rfl fun b a w hF hS => ?_
 refine step hF (Y.assign hF rfl) rfl fun a hF => ?_
 refine nil (then_n ?_)
 refine seq ?_
 refine region ?_
 refine step hF (Y.loadNL 1 sz_24 hF rfl hS rfl rfl rfl) rfl fun a hF => ?_
 obtain ⟨rv, hx, h⟩ := bind_some h
 refine O.callP (us := [.agg #[.int .i64 sv.Hours, .int .i64 sv.Gap, .slice p sv.Machines.length c]]) ca_22 hF hS (spare_Fewest_ok hS.stab sv hs hG rv hx) rfl rfl fun a w hF hS => ?_
 refine step hF (Y.move hF rfl) rfl fun a hF => ?_
 refine step hF (Y.extract hF rfl rfl) rfl fun a hF => ?_
 refine step hF (Y.extract hF rfl rfl) rfl fun a hF => ?_
 refine step hF (Y.assign hF rfl) rfl fun a hF => ?_
 refine step hF (Y.assign hF rfl) rfl fun a hF => ?_
 refine nil (then_n ?_)
 refine seq ?_
 refine region ?_
 refine step hF (Y.loadNL 1 sz_24 hF rfl hS rfl rfl rfl) rfl fun a hF => ?_
 obtain ⟨rv_1, hx_1, h⟩ := bind_some h
 refine O.callP (us := [.agg #[.int .i64 sv.Hours, .int .i64 sv.Gap, .slice p sv.Machines.length c]]) ca_23 hF hS (remontoirref08_Fewest_ok hS.stab sv hs rv_1 hx_1) rfl rfl fun a w hF hS => ?_
 refine step hF (Y.move hF rfl) rfl fun a hF => ?_
 refine step hF (Y.extract hF rfl rfl) rfl fun a hF => ?_
 refine step hF (Y.extract hF rfl rfl) rfl fun a hF => ?_
 refine step hF (Y.assign hF rfl) rfl fun a hF => ?_
 refine step hF (Y.assign hF rfl) rfl fun a hF => ?_
 refine nil (then_n ?_)
 refine seq ?_
 refine region ?_
 refine step hF (Y.loadNL 1 sz_24 hF rfl hS rfl rfl rfl) rfl fun a hF => ?_
 obtain ⟨rv_2, hx_2, h⟩ := bind_some h
 refine O.callS (us := [.agg #[.int .i64 sv.Hours, .int .i64 sv.Gap, .slice p sv.Machines.length c]]) ca_24 hF hS (spare_Plan_ok hS.stab sv hs hG rv_2 hx_2) rfl rfl fun v Dv a w hR hlev hF hS => ?_
 replace hs := hs.mono hlev
 replace hG := hG.mono hlev
 obtain ⟨p_1, c_1, rfl, hs_1⟩ := hR
 refine step hF (Y.move hF rfl) rfl fun a hF => ?_
 refine step hF (Y.extract hF rfl rfl) rfl fun a hF => ?_
 refine step hF (Y.extract hF rfl rfl) rfl fun a hF => ?_
 refine step hF (Y.assign hF rfl) rfl fun a hF => ?_
 refine step hF (Y.assign hF rfl) rfl fun a hF => ?_
 refine nil (then_n ?_)
 refine seq ?_
 refine seq ?_
 refine region ?_
 refine step hF (Y.move hF rfl) rfl fun a hF => ?_
 refine step hF (Y.move hF rfl) rfl fun a hF => ?_
 refine step hF (Y.neq hF rfl rfl) rfl fun a hF => ?_
 refine step hF (Y.move hF rfl) rfl fun a hF => ?_
 refine join (N := 63) (rs := []) (w0 := w0) (D0 := D0) 4 (us := [(1, .pointer (some ⟨b, 0, none⟩)), (2, .bool false), (5, .int .i64 rv_1.1), (6, .int .i64 rv_1.2), (7, .slice p_1 rv_2.1.length c_1), (8, .int .i64 rv_2.2), (33, .bool ((rv.1 != rv_1.1) || (rv.2 != rv_1.2)))]) (ms := [(1, .cells b [.int .i64 sv.Hours, .int .i64 sv.Gap, .slice p sv.Machines.length c] 24)]) (D' := Dv) ?_ ?_
 ·rcases bcases (rv.1 != rv_1.1) with hbv | hbv
  ·-- true
   refine guard_off hF rfl rfl hbv rfl fun a hF => ?_
   refine guard_off hF rfl rfl hbv rfl fun a hF => ?_
   refine guard_off hF rfl rfl hbv rfl fun a hF => ?_
   refine step hF (Y.pick_t hF rfl hbv rfl) rfl fun a hF => ?_
   exact nil (then_n ⟨hF.weak ⟨rfl, rfl, rfl, rfl, rfl, rfl, (by rw [hbv]; rfl), trivial⟩, hS.weak ⟨rfl, trivial⟩⟩)
  ·-- false
   refine guard_on hF rfl rfl hbv ?_
   refine step hF (Y.move hF rfl) rfl fun a hF => ?_
   refine guard_on hF rfl rfl hbv ?_
   refine step hF (Y.move hF rfl) rfl fun a hF => ?_
   refine guard_on hF rfl rfl hbv ?_
   refine step hF (Y.neq hF rfl rfl) rfl fun a hF => ?_
   refine step hF (Y.pick_f hF rfl hbv rfl) rfl fun a hF => ?_
   exact nil (then_n ⟨hF.weak ⟨rfl, rfl, rfl, rfl, rfl, rfl, (by rw [hbv]; rfl), trivial⟩, hS.weak ⟨rfl, trivial⟩⟩)
 intro a w hF hS
 refine step hF (Y.move hF rfl) rfl fun a hF => ?_
 refine join (N := 63) (rs := []) (w0 := w0) (D0 := D0) 4 (us := [(1, .pointer (some ⟨b, 0, none⟩)), (2, .bool false), (5, .int .i64 rv_1.1), (6, .int .i64 rv_1.2), (7, .slice p_1 rv_2.1.length c_1), (38, .bool (((rv.1 != rv_1.1) || (rv.2 != rv_1.2)) || (rv_2.2 != rv_1.2)))]) (ms := [(1, .cells b [.int .i64 sv.Hours, .int .i64 sv.Gap, .slice p sv.Machines.length c] 24)]) (D' := Dv) ?_ ?_
 ·rcases bcases ((rv.1 != rv_1.1) || (rv.2 != rv_1.2)) with hbv_1 | hbv_1
  ·-- true
   refine guard_off hF rfl rfl hbv_1 rfl fun a hF => ?_
   refine guard_off hF rfl rfl hbv_1 rfl fun a hF => ?_
   refine guard_off hF rfl rfl hbv_1 rfl fun a hF => ?_
   refine step hF (Y.pick_t hF rfl hbv_1 rfl) rfl fun a hF => ?_
   exact nil (then_n ⟨hF.weak ⟨rfl, rfl, rfl, rfl, rfl, (by rw [hbv_1]; rfl), trivial⟩, hS.weak ⟨rfl, trivial⟩⟩)
  ·-- false
   refine guard_on hF rfl rfl hbv_1 ?_
   refine step hF (Y.move hF rfl) rfl fun a hF => ?_
   refine guard_on hF rfl rfl hbv_1 ?_
   refine step hF (Y.move hF rfl) rfl fun a hF => ?_
   refine guard_on hF rfl rfl hbv_1 ?_
   refine step hF (Y.neq hF rfl rfl) rfl fun a hF => ?_
   refine step hF (Y.pick_f hF rfl hbv_1 rfl) rfl fun a hF => ?_
   exact nil (then_n ⟨hF.weak ⟨rfl, rfl, rfl, rfl, rfl, (by rw [hbv_1]; rfl), trivial⟩, hS.weak ⟨rfl, trivial⟩⟩)
 intro a w hF hS
 refine nil (then_n ?_)
 refine cond_b hF rfl (fun hbv_2 => ?_) (fun hbv_2 => ?_)
 ·replace h := cond_t h hbv_2
  refine seq ?_
  refine region ?_
  refine step hF (Y.assign hF rfl) rfl fun a hF => ?_
  refine nil (then_n ?_)
  refine ret_ (then_r ?_)
  obtain rfl := some_inj h
  exact leaveP Tryd.results4 hF hS (.cons (.tmp rfl) .nil) .nil rfl
 ·replace h := cond_f h hbv_2
  refine skip_ (then_n ?_)
  refine seq ?_
  refine seq ?_
  refine region ?_
  refine step hF (Y.move hF rfl) rfl fun a hF => ?_
  refine step hF (Y.neq hF rfl rfl) rfl fun a hF => ?_
  refine nil (then_n ?_)
  refine cond_b hF rfl (fun hbv_3 => ?_) (fun hbv_3 => ?_)
  ·replace h := cond_t h hbv_3
   refine seq ?_
   refine region ?_
   refine step hF (Y.move hF rfl) rfl fun a hF => ?_
   refine step hF (Y.lenSl u_25 hF rfl) rfl fun a hF => ?_
   refine step hF (Y.eql hF rfl rfl) rfl fun a hF => ?_
   refine step hF (Y.move hF rfl) rfl fun a hF => ?_
   obtain ⟨t, ht, h⟩ := bind_some h
   refine join (N := 63) (rs := []) (w0 := w0) (D0 := D0) 2 (us := [(1, .pointer (some ⟨b, 0, none⟩)), (2, .bool false), (5, .int .i64 rv_1.1), (7, .slice p_1 rv_2.1.length c_1), (46, .bool t)]) (ms := [(1, .cells b [.int .i64 sv.Hours, .int .i64 sv.Gap, .slice p sv.Machines.length c] 24)]) (D' := Dv) ?_ ?_
   ·rcases bcases ((rv_2.1.length : Int) == 0) with hbv_4 | hbv_4
    ·-- true
     replace h := cond_t ht hbv_4
     refine guard_on hF rfl rfl hbv_4 ?_
     obtain ⟨rv_3, hx_3, h⟩ := bind_some h
     refine O.callP (us := []) ca_21 hF hS (remontoirlaw08_works_ok hS.stab hG rv_3 hx_3) rfl rfl fun a w hF hS => ?_
     refine step hF (Y.pick_t hF rfl hbv_4 rfl) rfl fun a hF => ?_
     obtain rfl := some_inj h
     exact nil (then_n ⟨hF.weak ⟨rfl, rfl, rfl, rfl, rfl, trivial⟩, hS.weak ⟨rfl, trivial⟩⟩)
    ·-- false
     replace h := cond_f ht hbv_4
     refine guard_off hF rfl rfl hbv_4 rfl fun a hF => ?_
     refine step hF (Y.pick_f hF rfl hbv_4 rfl) rfl fun a hF => ?_
     obtain rfl := some_inj h
     exact nil (then_n ⟨hF.weak ⟨rfl, rfl, rfl, rfl, rfl, trivial⟩, hS.weak ⟨rfl, trivial⟩⟩)
   intro a w hF hS
   refine step hF (Y.assign hF rfl) rfl fun a hF => ?_
   refine nil (then_n ?_)
   refine ret_ (then_r ?_)
   obtain rfl := some_inj h
   exact leaveP Tryd.results4 hF hS (.cons (.tmp rfl) .nil) .nil rfl
  ·replace h := cond_f h hbv_3
   refine skip_ (then_n ?_)
   refine seq ?_
   refine region ?_
   refine step hF (Y.loadNL 1 sz_24 hF rfl hS rfl rfl rfl) rfl fun a hF => ?_
   refine step hF (Y.move hF rfl) rfl fun a hF => ?_
   obtain ⟨rv_4, hx_4, h⟩ := bind_some h
   refine O.callP (us := [.agg #[.int .i64 sv.Hours, .int .i64 sv.Gap, .slice p sv.Machines.length c], .slice p_1 rv_2.1.length c_1]) ca_20 hF hS (remontoirref08_IsPlan_ok hS.stab sv rv_2.1 hs hs_1 rv_4 hx_4) rfl rfl fun a w hF hS => ?_
   refine step hF (Y.move hF rfl) rfl fun a hF => ?_
   refine step hF (Y.extract hF rfl rfl) rfl fun a hF => ?_
   refine step hF (Y.extract hF rfl rfl) rfl fun a hF => ?_
   refine step hF (Y.assign hF rfl) rfl fun a hF => ?_
   refine step hF (Y.assign hF rfl) rfl fun a hF => ?_
   refine nil (then_n ?_)
   refine seq ?_
   refine region ?_
   refine step hF (Y.move hF rfl) rfl fun a hF => ?_
   refine step hF (Y.move hF rfl) rfl fun a hF => ?_
   refine join (N := 63) (rs := []) (w0 := w0) (D0 := D0) 5 (us := [(2, .bool false), (59, .bool (rv_4.1 && ((rv_2.1.length : Int) == rv_1.1)))]) (ms := [(1, .cells b [.int .i64 sv.Hours, .int .i64 sv.Gap, .slice p sv.Machines.length c] 24)]) (D' := Dv) ?_ ?_
   ·rcases bcases rv_4.1 with hbv_5 | hbv_5
    ·-- true
     refine guard_on hF rfl rfl hbv_5 ?_
     refine step hF (Y.move hF rfl) rfl fun a hF => ?_
     refine guard_on hF rfl rfl hbv_5 ?_
     refine step hF (Y.lenSl u_25 hF rfl) rfl fun a hF => ?_
     refine guard_on hF rfl rfl hbv_5 ?_
     refine step hF (Y.move hF rfl) rfl fun a hF => ?_
     refine guard_on hF rfl rfl hbv_5 ?_
     refine step hF (Y.eql hF rfl rfl) rfl fun a hF => ?_
     refine step hF (Y.pick_t hF rfl hbv_5 rfl) rfl fun a hF => ?_
     exact nil (then_n ⟨hF.weak ⟨rfl, (by rw [hbv_5]; rfl), trivial⟩, hS.weak ⟨rfl, trivial⟩⟩)
    ·-- false
     refine guard_off hF rfl rfl hbv_5 rfl fun a hF => ?_
     refine guard_off hF rfl rfl hbv_5 rfl fun a hF => ?_
     refine guard_off hF rfl rfl hbv_5 rfl fun a hF => ?_
     refine guard_off hF rfl rfl hbv_5 rfl fun a hF => ?_
     refine step hF (Y.pick_f hF rfl hbv_5 rfl) rfl fun a hF => ?_
     exact nil (then_n ⟨hF.weak ⟨rfl, (by rw [hbv_5]; rfl), trivial⟩, hS.weak ⟨rfl, trivial⟩⟩)
   intro a w hF hS
   refine step hF (Y.move hF rfl) rfl fun a hF => ?_
   obtain ⟨t_1, ht_1, h⟩ := bind_some h
   refine join (N := 63) (rs := []) (w0 := w0) (D0 := D0) 2 (us := [(2, .bool false), (62, .bool t_1)]) (ms := [(1, .cells b [.int .i64 sv.Hours, .int .i64 sv.Gap, .slice p sv.Machines.length c] 24)]) (D' := Dv) ?_ ?_
   ·rcases bcases (rv_4.1 && ((rv_2.1.length : Int) == rv_1.1)) with hbv_6 | hbv_6
    ·-- true
     replace h := cond_t ht_1 hbv_6
     refine guard_on hF rfl rfl hbv_6 ?_
     obtain ⟨rv_5, hx_5, h⟩ := bind_some h
     refine O.callP (us := []) ca_21 hF hS (remontoirlaw08_works_ok hS.stab hG rv_5 hx_5) rfl rfl fun a w hF hS => ?_
     refine step hF (Y.pick_t hF rfl hbv_6 rfl) rfl fun a hF => ?_
     obtain rfl := some_inj h
     exact nil (then_n ⟨hF.weak ⟨rfl, rfl, trivial⟩, hS.weak ⟨rfl, trivial⟩⟩)
    ·-- false
     replace h := cond_f ht_1 hbv_6
     refine guard_off hF rfl rfl hbv_6 rfl fun a hF => ?_
     refine step hF (Y.pick_f hF rfl hbv_6 rfl) rfl fun a hF => ?_
     obtain rfl := some_inj h
     exact nil (then_n ⟨hF.weak ⟨rfl, rfl, trivial⟩, hS.weak ⟨rfl, trivial⟩⟩)
   intro a w hF hS
   refine step hF (Y.assign hF rfl) rfl fun a hF => ?_
   refine nil (then_n ?_)
   refine ret_ ?_
   obtain rfl := some_inj h
   exact leaveP Tryd.results4 hF hS (.cons (.tmp rfl) .nil) .nil rfl

end Go.Proofs.YtidmdgjgpmeecaaDoor.Rt
