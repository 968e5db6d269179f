/- Walks of the functions of this seat: what each Go function comes to, as a Lean function, and the proof. A law. Under no conditions. -/
import Derived.Test.YtidmdgjgpmeecaaDoorWRZ
set_option linter.unusedVariables false
set_option linter.unusedSimpArgs false
set_option maxRecDepth 100000
set_option maxHeartbeats 4000000
namespace Go.Proofs.YtidmdgjgpmeecaaDoor.Rt
open Go Go.RowKit
noncomputable def remontoirlaw08_SpareReaches (sv : SpareStore) : Option Bool :=
  (spare_Reach sv).bind fun rv =>
  (remontoirref08_Reach sv).bind fun rv_1 =>
  cond ((rv.1 != rv_1.1) || (rv.2 != rv_1.2))
  (some false)
  ((spare_Need sv).bind fun rv_2 =>
  (remontoirref08_Need sv).bind fun rv_3 =>
  (remontoirref00_Alike rv_2.1 rv_3.1).bind fun rv_4 =>
  cond ((!rv_4) || (rv_2.2 != rv_3.2))
  (some false)
  ((spare_Pair sv).bind fun rv_5 =>
  (remontoirref08_Pair sv).bind fun rv_6 =>
  (cond ((rv_5.1 == rv_6.1) && (rv_5.2 == rv_6.2)) ((remontoirlaw08_works).bind fun rv_7 =>
  some rv_7) (some false)).bind fun t =>
  some t))
theorem remontoirlaw08_SpareReaches_ok {w0 : World} {D0 : Stab} (hD : D0.on w0) (sv : SpareStore) {p : Option Addr} {c : Nat} (hs : SRc C_SpareMachine D0 sv.Machines p c) (hG : Glob D0) (out : Bool) (h : remontoirlaw08_SpareReaches sv = some out) : Calls Tryd.prog 5 [.agg #[.int .i64 sv.Hours, .int .i64 sv.Gap, .slice p sv.Machines.length c]].toArray w0 (RetP D0 w0 (.bool out)) := by
 refine enter _ 67 Tryd.func5 rfl Tryd.ntmps5 rfl fun a hF => ?_
 replace hF : Frm 67 [] [(0, .agg #[.int .i64 sv.Hours, .int .i64 sv.Gap, .slice p sv.Machines.length c])] a := hF
 have hS := St.start hD
 unfold remontoirlaw08_SpareReaches at h
 refine seq ?_
 refine region ?_
 refine O.box (cs := [.int .i64 sv.Hours, .int .i64 sv.Gap, .slice p sv.Machines.length c]) 1 hF rfl rfl hS rfl fun b a w hF hS => ?_
 refine step hF (Y.assign hF rfl) rfl fun a hF => ?_
 refine nil (then_n ?_)
 refine seq ?_
 refine region ?_
 refine step hF (Y.loadNL 1 sz_24 hF rfl hS rfl rfl rfl) rfl fun a hF => ?_
 obtain ⟨rv, hx, h⟩ := bind_some h
 refine O.callP (us := [.agg #[.int .i64 sv.Hours, .int .i64 sv.Gap, .slice p sv.Machines.length c]]) ca_25 hF hS (spare_Reach_ok hS.stab sv hs hG rv hx) rfl rfl fun a w hF hS => ?_
 refine step hF (Y.move hF rfl) rfl fun a hF => ?_
 refine step hF (Y.extract hF rfl rfl) rfl fun a hF => ?_
 refine step hF (Y.extract hF rfl rfl) rfl fun a hF => ?_
 refine step hF (Y.assign hF rfl) rfl fun a hF => ?_
 refine step hF (Y.assign hF rfl) rfl fun a hF => ?_
 refine nil (then_n ?_)
 refine seq ?_
 refine region ?_
 refine step hF (Y.loadNL 1 sz_24 hF rfl hS rfl rfl rfl) rfl fun a hF => ?_
 obtain ⟨rv_1, hx_1, h⟩ := bind_some h
 refine O.callP (us := [.agg #[.int .i64 sv.Hours, .int .i64 sv.Gap, .slice p sv.Machines.length c]]) ca_26 hF hS (remontoirref08_Reach_ok hS.stab sv hs rv_1 hx_1) rfl rfl fun a w hF hS => ?_
 refine step hF (Y.move hF rfl) rfl fun a hF => ?_
 refine step hF (Y.extract hF rfl rfl) rfl fun a hF => ?_
 refine step hF (Y.extract hF rfl rfl) rfl fun a hF => ?_
 refine step hF (Y.assign hF rfl) rfl fun a hF => ?_
 refine step hF (Y.assign hF rfl) rfl fun a hF => ?_
 refine nil (then_n ?_)
 refine seq ?_
 refine seq ?_
 refine region ?_
 refine step hF (Y.move hF rfl) rfl fun a hF => ?_
 refine step hF (Y.move hF rfl) rfl fun a hF => ?_
 refine step hF (Y.neq hF rfl rfl) rfl fun a hF => ?_
 refine step hF (Y.move hF rfl) rfl fun a hF => ?_
 refine join (N := 67) (rs := []) (w0 := w0) (D0 := D0) 4 (us := [(1, .pointer (some ⟨b, 0, none⟩)), (2, .bool false), (3, .int .i64 rv.1), (4, .int .i64 rv.2), (5, .int .i64 rv_1.1), (6, .int .i64 rv_1.2), (26, .bool ((rv.1 != rv_1.1) || (rv.2 != rv_1.2)))]) (ms := [(1, .cells b [.int .i64 sv.Hours, .int .i64 sv.Gap, .slice p sv.Machines.length c] 24)]) (D' := D0) ?_ ?_
 ·rcases bcases (rv.1 != rv_1.1) with hbv | hbv
  ·-- true
   refine guard_off hF rfl rfl hbv rfl fun a hF => ?_
   refine guard_off hF rfl rfl hbv rfl fun a hF => ?_
   refine guard_off hF rfl rfl hbv rfl fun a hF => ?_
   refine step hF (Y.pick_t hF rfl hbv rfl) rfl fun a hF => ?_
   exact nil (then_n ⟨hF.weak ⟨rfl, rfl, rfl, rfl, rfl, rfl, (by rw [hbv]; rfl), trivial⟩, hS.weak ⟨rfl, trivial⟩⟩)
  ·-- false
   refine guard_on hF rfl rfl hbv ?_
   refine step hF (Y.move hF rfl) rfl fun a hF => ?_
   refine guard_on hF rfl rfl hbv ?_
   refine step hF (Y.move hF rfl) rfl fun a hF => ?_
   refine guard_on hF rfl rfl hbv ?_
   refine step hF (Y.neq hF rfl rfl) rfl fun a hF => ?_
   refine step hF (Y.pick_f hF rfl hbv rfl) rfl fun a hF => ?_
   exact nil (then_n ⟨hF.weak ⟨rfl, rfl, rfl, rfl, rfl, rfl, (by rw [hbv]; rfl), trivial⟩, hS.weak ⟨rfl, trivial⟩⟩)
 intro a w hF hS
 refine nil (then_n ?_)
 refine cond_b hF rfl (fun hbv_1 => ?_) (fun hbv_1 => ?_)
 ·replace h := cond_t h hbv_1
  refine seq ?_
  refine region ?_
  refine step hF (Y.assign hF rfl) rfl fun a hF => ?_
  refine nil (then_n ?_)
  refine ret_ (then_r ?_)
  obtain rfl := some_inj h
  exact leaveP Tryd.results5 hF hS (.cons (.tmp rfl) .nil) .nil rfl
 ·replace h := cond_f h hbv_1
  refine skip_ (then_n ?_)
  refine seq ?_
  refine region ?_
  refine step hF (Y.loadNL 1 sz_24 hF rfl hS rfl rfl rfl) rfl fun a hF => ?_
  obtain ⟨rv_2, hx_2, h⟩ := bind_some h
  refine O.callS (us := [.agg #[.int .i64 sv.Hours, .int .i64 sv.Gap, .slice p sv.Machines.length c]]) ca_27 hF hS (spare_Need_ok hS.stab sv hs hG rv_2 hx_2) rfl rfl fun v Dv a w hR hlev hF hS => ?_
  replace hs := hs.mono hlev
  replace hG := hG.mono hlev
  obtain ⟨p_1, c_1, rfl, hs_1⟩ := hR
  refine step hF (Y.move hF rfl) rfl fun a hF => ?_
  refine step hF (Y.extract hF rfl rfl) rfl fun a hF => ?_
  refine step hF (Y.extract hF rfl rfl) rfl fun a hF => ?_
  refine step hF (Y.assign hF rfl) rfl fun a hF => ?_
  refine step hF (Y.assign hF rfl) rfl fun a hF => ?_
  refine nil (then_n ?_)
  refine seq ?_
  refine region ?_
  refine step hF (Y.loadNL 1 sz_24 hF rfl hS rfl rfl rfl) rfl fun a hF => ?_
  obtain ⟨rv_3, hx_3, h⟩ := bind_some h
  refine O.callS (us := [.agg #[.int .i64 sv.Hours, .int .i64 sv.Gap, .slice p sv.Machines.length c]]) ca_28 hF hS (remontoirref08_Need_ok hS.stab sv hs rv_3 hx_3) rfl rfl fun v_1 Dv_1 a w hR_1 hlev_1 hF hS => ?_
  replace hs := hs.mono hlev_1
  replace hG := hG.mono hlev_1
  replace hs_1 := hs_1.mono hlev_1
  obtain ⟨p_2, c_2, rfl, hs_2⟩ := hR_1
  refine step hF (Y.move hF rfl) rfl fun a hF => ?_
  refine step hF (Y.extract hF rfl rfl) rfl fun a hF => ?_
  refine step hF (Y.extract hF rfl rfl) rfl fun a hF => ?_
  refine step hF (Y.assign hF rfl) rfl fun a hF => ?_
  refine step hF (Y.assign hF rfl) rfl fun a hF => ?_
  refine nil (then_n ?_)
  refine seq ?_
  refine seq ?_
  refine region ?_
  refine step hF (Y.move hF rfl) rfl fun a hF => ?_
  refine step hF (Y.move hF rfl) rfl fun a hF => ?_
  obtain ⟨rv_4, hx_4, h⟩ := bind_some h
  refine O.callP (us := [.slice p_1 rv_2.1.length c_1, .slice p_2 rv_3.1.length c_2]) ca_29 hF hS (remontoirref00_Alike_ok hS.stab rv_2.1 rv_3.1 hs_1 hs_2 rv_4 hx_4) rfl rfl fun a w hF hS => ?_
  refine step hF (Y.not hF rfl) rfl fun a hF => ?_
  refine step hF (Y.move hF rfl) rfl fun a hF => ?_
  refine join (N := 67) (rs := []) (w0 := w0) (D0 := D0) 4 (us := [(1, .pointer (some ⟨b, 0, none⟩)), (2, .bool false), (3, .int .i64 rv.1), (4, .int .i64 rv_2.2), (5, .int .i64 rv_1.1), (6, .int .i64 rv_3.2), (45, .bool ((!rv_4) || (rv_2.2 != rv_3.2)))]) (ms := [(1, .cells b [.int .i64 sv.Hours, .int .i64 sv.Gap, .slice p sv.Machines.length c] 24)]) (D' := Dv_1) ?_ ?_
  ·rcases bcases (!rv_4) with hbv_2 | hbv_2
   ·-- true
    refine guard_off hF rfl rfl hbv_2 rfl fun a hF => ?_
    refine guard_off hF rfl rfl hbv_2 rfl fun a hF => ?_
    refine guard_off hF rfl rfl hbv_2 rfl fun a hF => ?_
    refine step hF (Y.pick_t hF rfl hbv_2 rfl) rfl fun a hF => ?_
    exact nil (then_n ⟨hF.weak ⟨rfl, rfl, rfl, rfl, rfl, rfl, (by rw [hbv_2]; rfl), trivial⟩, hS.weak ⟨rfl, trivial⟩⟩)
   ·-- false
    refine guard_on hF rfl rfl hbv_2 ?_
    refine step hF (Y.move hF rfl) rfl fun a hF => ?_
    refine guard_on hF rfl rfl hbv_2 ?_
    refine step hF (Y.move hF rfl) rfl fun a hF => ?_
    refine guard_on hF rfl rfl hbv_2 ?_
    refine step hF (Y.neq hF rfl rfl) rfl fun a hF => ?_
    refine step hF (Y.pick_f hF rfl hbv_2 rfl) rfl fun a hF => ?_
    exact nil (then_n ⟨hF.weak ⟨rfl, rfl, rfl, rfl, rfl, rfl, (by rw [hbv_2]; rfl), trivial⟩, hS.weak ⟨rfl, trivial⟩⟩)
  intro a w hF hS
  refine nil (then_n ?_)
  refine cond_b hF rfl (fun hbv_3 => ?_) (fun hbv_3 => ?_)
  ·replace h := cond_t h hbv_3
   refine seq ?_
   refine region ?_
   refine step hF (Y.assign hF rfl) rfl fun a hF => ?_
   refine nil (then_n ?_)
   refine ret_ (then_r ?_)
   obtain rfl := some_inj h
   exact leaveP Tryd.results5 hF hS (.cons (.tmp rfl) .nil) .nil rfl
  ·replace h := cond_f h hbv_3
   refine skip_ (then_n ?_)
   refine seq ?_
   refine region ?_
   refine step hF (Y.loadNL 1 sz_24 hF rfl hS rfl rfl rfl) rfl fun a hF => ?_
   obtain ⟨rv_5, hx_5, h⟩ := bind_some h
   refine O.callP (us := [.agg #[.int .i64 sv.Hours, .int .i64 sv.Gap, .slice p sv.Machines.length c]]) ca_30 hF hS (spare_Pair_ok hS.stab sv hs hG rv_5 hx_5) rfl rfl fun a w hF hS => ?_
   refine step hF (Y.move hF rfl) rfl fun a hF => ?_
   refine step hF (Y.extract hF rfl rfl) rfl fun a hF => ?_
   refine step hF (Y.extract hF rfl rfl) rfl fun a hF => ?_
   refine step hF (Y.assign hF rfl) rfl fun a hF => ?_
   refine step hF (Y.assign hF rfl) rfl fun a hF => ?_
   refine nil (then_n ?_)
   refine seq ?_
   refine region ?_
   refine step hF (Y.loadNL 1 sz_24 hF rfl hS rfl rfl rfl) rfl fun a hF => ?_
   obtain ⟨rv_6, hx_6, h⟩ := bind_some h
   refine O.callP (us := [.agg #[.int .i64 sv.Hours, .int .i64 sv.Gap, .slice p sv.Machines.length c]]) ca_31 hF hS (remontoirref08_Pair_ok hS.stab sv hs rv_6 hx_6) rfl rfl fun a w hF hS => ?_
   refine step hF (Y.move hF rfl) rfl fun a hF => ?_
   refine step hF (Y.extract hF rfl rfl) rfl fun a hF => ?_
   refine step hF (Y.extract hF rfl rfl) rfl fun a hF => ?_
   refine step hF (Y.assign hF rfl) rfl fun a hF => ?_
   refine step hF (Y.assign hF rfl) rfl fun a hF => ?_
   refine nil (then_n ?_)
   refine seq ?_
   refine region ?_
   refine step hF (Y.move hF rfl) rfl fun a hF => ?_
   refine step hF (Y.move hF rfl) rfl fun a hF => ?_
   refine step hF (Y.eql hF rfl rfl) rfl fun a hF => ?_
   refine step hF (Y.move hF rfl) rfl fun a hF => ?_
   refine join (N := 67) (rs := []) (w0 := w0) (D0 := D0) 4 (us := [(2, .bool false), (63, .bool ((rv_5.1 == rv_6.1) && (rv_5.2 == rv_6.2)))]) (ms := [(1, .cells b [.int .i64 sv.Hours, .int .i64 sv.Gap, .slice p sv.Machines.length c] 24)]) (D' := Dv_1) ?_ ?_
   ·rcases bcases (rv_5.1 == rv_6.1) with hbv_4 | hbv_4
    ·-- true
     refine guard_on hF rfl rfl hbv_4 ?_
     refine step hF (Y.move hF rfl) rfl fun a hF => ?_
     refine guard_on hF rfl rfl hbv_4 ?_
     refine step hF (Y.move hF rfl) rfl fun a hF => ?_
     refine guard_on hF rfl rfl hbv_4 ?_
     refine step hF (Y.eql hF rfl rfl) rfl fun a hF => ?_
     refine step hF (Y.pick_t hF rfl hbv_4 rfl) rfl fun a hF => ?_
     exact nil (then_n ⟨hF.weak ⟨rfl, (by rw [hbv_4]; rfl), trivial⟩, hS.weak ⟨rfl, trivial⟩⟩)
    ·-- false
     refine guard_off hF rfl rfl hbv_4 rfl fun a hF => ?_
     refine guard_off hF rfl rfl hbv_4 rfl fun a hF => ?_
     refine guard_off hF rfl rfl hbv_4 rfl fun a hF => ?_
     refine step hF (Y.pick_f hF rfl hbv_4 rfl) rfl fun a hF => ?_
     exact nil (then_n ⟨hF.weak ⟨rfl, (by rw [hbv_4]; rfl), trivial⟩, hS.weak ⟨rfl, trivial⟩⟩)
   intro a w hF hS
   refine step hF (Y.move hF rfl) rfl fun a hF => ?_
   obtain ⟨t, ht, h⟩ := bind_some h
   refine join (N := 67) (rs := []) (w0 := w0) (D0 := D0) 2 (us := [(2, .bool false), (66, .bool t)]) (ms := [(1, .cells b [.int .i64 sv.Hours, .int .i64 sv.Gap, .slice p sv.Machines.length c] 24)]) (D' := Dv_1) ?_ ?_
   ·rcases bcases ((rv_5.1 == rv_6.1) && (rv_5.2 == rv_6.2)) with hbv_5 | hbv_5
    ·-- true
     replace h := cond_t ht hbv_5
     refine guard_on hF rfl rfl hbv_5 ?_
     obtain ⟨rv_7, hx_7, h⟩ := bind_some h
     refine O.callP (us := []) ca_21 hF hS (remontoirlaw08_works_ok hS.stab hG rv_7 hx_7) rfl rfl fun a w hF hS => ?_
     refine step hF (Y.pick_t hF rfl hbv_5 rfl) rfl fun a hF => ?_
     obtain rfl := some_inj h
     exact nil (then_n ⟨hF.weak ⟨rfl, rfl, trivial⟩, hS.weak ⟨rfl, trivial⟩⟩)
    ·-- false
     replace h := cond_f ht hbv_5
     refine guard_off hF rfl rfl hbv_5 rfl fun a hF => ?_
     refine step hF (Y.pick_f hF rfl hbv_5 rfl) rfl fun a hF => ?_
     obtain rfl := some_inj h
     exact nil (then_n ⟨hF.weak ⟨rfl, rfl, trivial⟩, hS.weak ⟨rfl, trivial⟩⟩)
   intro a w hF hS
   refine step hF (Y.assign hF rfl) rfl fun a hF => ?_
   refine nil (then_n ?_)
   refine ret_ ?_
   obtain rfl := some_inj h
   exact leaveP Tryd.results5 hF hS (.cons (.tmp rfl) .nil) .nil rfl

end Go.Proofs.YtidmdgjgpmeecaaDoor.Rt
