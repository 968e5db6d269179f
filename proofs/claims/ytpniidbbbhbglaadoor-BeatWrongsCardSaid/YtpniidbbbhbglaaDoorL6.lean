/- Walks of the functions of this seat: what each Go function comes to, as a Lean function, and the proof. A law. Under no conditions. -/
import Derived.Test.YtpniidbbbhbglaaDoorWQZ
set_option linter.unusedVariables false
set_option linter.unusedSimpArgs false
set_option maxRecDepth 100000
set_option maxHeartbeats 4000000
namespace Go.Proofs.YtpniidbbbhbglaaDoor.Rt
open Go Go.RowKit
noncomputable def remontoirlaw02_BeatWrongs (c : BeatCellar) (hour : Int) : Option Bool :=
  (beat_Wrong c).bind fun rv =>
  (remontoirref02_Wrong c).bind fun rv_1 =>
  (remontoirref00_Alike rv.1 rv_1.1).bind fun rv_2 =>
  cond ((!rv_2) || (rv.2 != rv_1.2))
  (some false)
  ((beat_Best c hour).bind fun rv_3 =>
  (remontoirref02_Best c hour).bind fun rv_4 =>
  (cond (((rv_3.1 == rv_4.1) && (rv_3.2.1 == rv_4.2.1)) && (rv_3.2.2 == rv_4.2.2)) ((remontoirlaw02_works).bind fun rv_5 =>
  some rv_5) (some false)).bind fun t =>
  some t)
theorem remontoirlaw02_BeatWrongs_ok {w0 : World} {D0 : Stab} (hD : D0.on w0) (c : BeatCellar) (hour : Int) {p : Option Addr} {c_1 : Nat} {p_1 : Option Addr} {c_2 : Nat} {p_2 : Option Addr} {c_3 : Nat} (hs : SRc C_Span D0 c.Rates p c_1) (hs_1 : SRc C_BeatOpen D0 c.Opens p_1 c_2) (hs_2 : SRc C_BeatPair D0 c.Pairs p_2 c_3) (hG : Glob D0) (out : Bool) (h : remontoirlaw02_BeatWrongs c hour = some out) : Calls Tryd.prog 6 [.agg #[.int .i64 c.Hours, .slice p c.Rates.length c_1, .slice p_1 c.Opens.length c_2, .slice p_2 c.Pairs.length c_3], .int .i64 hour].toArray w0 (RetP D0 w0 (.bool out)) := by
 refine enter _ 62 Tryd.func6 rfl Tryd.ntmps6 rfl fun a hF => ?_
 replace hF : Frm 62 [] [(0, .agg #[.int .i64 c.Hours, .slice p c.Rates.length c_1, .slice p_1 c.Opens.length c_2, .slice p_2 c.Pairs.length c_3]), (1, .int .i64 hour)] a := hF
 have hS := St.start hD
 unfold remontoirlaw02_BeatWrongs at h
 refine seq ?_
 refine region ?_
 refine O.box (cs := [.int .i64 c.Hours, .slice p c.Rates.length c_1, .slice p_1 c.Opens.length c_2, .slice p_2 c.Pairs.length c_3]) 1 hF rfl rfl hS rfl fun b a w hF hS => ?_
 refine step hF (Y.assign hF rfl) rfl fun a hF => ?_
 refine nil (then_n ?_)
 refine seq ?_
 refine region ?_
 refine step hF (Y.loadNL 1 sz_26 hF rfl hS rfl rfl rfl) rfl fun a hF => ?_
 obtain ⟨rv, hx, h⟩ := bind_some h
 refine O.callS (us := [.agg #[.int .i64 c.Hours, .slice p c.Rates.length c_1, .slice p_1 c.Opens.length c_2, .slice p_2 c.Pairs.length c_3]]) ca_27 hF hS (beat_Wrong_ok hS.stab c hs hs_1 hs_2 hG rv hx) rfl rfl fun v Dv a w hR hlev hF hS => ?_
 replace hs := hs.mono hlev
 replace hs_1 := hs_1.mono hlev
 replace hs_2 := hs_2.mono hlev
 replace hG := hG.mono hlev
 obtain ⟨p_3, c_4, rfl, hs_3⟩ := hR
 refine step hF (Y.move hF rfl) rfl fun a hF => ?_
 refine step hF (Y.extract hF rfl rfl) rfl fun a hF => ?_
 refine step hF (Y.extract hF rfl rfl) rfl fun a hF => ?_
 refine step hF (Y.assign hF rfl) rfl fun a hF => ?_
 refine step hF (Y.assign hF rfl) rfl fun a hF => ?_
 refine nil (then_n ?_)
 refine seq ?_
 refine region ?_
 refine step hF (Y.loadNL 1 sz_26 hF rfl hS rfl rfl rfl) rfl fun a hF => ?_
 obtain ⟨rv_1, hx_1, h⟩ := bind_some h
 refine O.callS (us := [.agg #[.int .i64 c.Hours, .slice p c.Rates.length c_1, .slice p_1 c.Opens.length c_2, .slice p_2 c.Pairs.length c_3]]) ca_28 hF hS (remontoirref02_Wrong_ok hS.stab c hs hs_1 hs_2 rv_1 hx_1) rfl rfl fun v_1 Dv_1 a w hR_1 hlev_1 hF hS => ?_
 replace hs := hs.mono hlev_1
 replace hs_1 := hs_1.mono hlev_1
 replace hs_2 := hs_2.mono hlev_1
 replace hG := hG.mono hlev_1
 replace hs_3 := hs_3.mono hlev_1
 obtain ⟨p_4, c_5, rfl, hs_4⟩ := hR_1
 refine step hF (Y.move hF rfl) rfl fun a hF => ?_
 refine step hF (Y.extract hF rfl rfl) rfl fun a hF => ?_
 refine step hF (Y.extract hF rfl rfl) rfl fun a hF => ?_
 refine step hF (Y.assign hF rfl) rfl fun a hF => ?_
 refine step hF (Y.assign hF rfl) rfl fun a hF => ?_
 refine nil (then_n ?_)
 refine seq ?_
 refine seq ?_
 refine region ?_
 refine step hF (Y.move hF rfl) rfl fun a hF => ?_
 refine step hF (Y.move hF rfl) rfl fun a hF => ?_
 obtain ⟨rv_2, hx_2, h⟩ := bind_some h
 refine O.callP (us := [.slice p_3 rv.1.length c_4, .slice p_4 rv_1.1.length c_5]) ca_29 hF hS (remontoirref00_Alike_ok hS.stab rv.1 rv_1.1 hs_3 hs_4 rv_2 hx_2) rfl rfl fun a w hF hS => ?_
 refine step hF (Y.not hF rfl) rfl fun a hF => ?_
 refine step hF (Y.move hF rfl) rfl fun a hF => ?_
 refine join (N := 62) (rs := []) (w0 := w0) (D0 := D0) 4 (us := [(1, .int .i64 hour), (2, .pointer (some ⟨b, 0, none⟩)), (4, .bool false), (6, .int .i64 rv.2), (8, .int .i64 rv_1.2), (31, .bool ((!rv_2) || (rv.2 != rv_1.2)))]) (ms := [(1, .cells b [.int .i64 c.Hours, .slice p c.Rates.length c_1, .slice p_1 c.Opens.length c_2, .slice p_2 c.Pairs.length c_3] 26)]) (D' := Dv_1) ?_ ?_
 ·rcases bcases (!rv_2) with hbv | hbv
  ·-- true
   refine guard_off hF rfl rfl hbv rfl fun a hF => ?_
   refine guard_off hF rfl rfl hbv rfl fun a hF => ?_
   refine guard_off hF rfl rfl hbv rfl fun a hF => ?_
   refine step hF (Y.pick_t hF rfl hbv rfl) rfl fun a hF => ?_
   exact nil (then_n ⟨hF.weak ⟨rfl, rfl, rfl, rfl, rfl, (by rw [hbv]; rfl), trivial⟩, hS.weak ⟨rfl, trivial⟩⟩)
  ·-- false
   refine guard_on hF rfl rfl hbv ?_
   refine step hF (Y.move hF rfl) rfl fun a hF => ?_
   refine guard_on hF rfl rfl hbv ?_
   refine step hF (Y.move hF rfl) rfl fun a hF => ?_
   refine guard_on hF rfl rfl hbv ?_
   refine step hF (Y.neq hF rfl rfl) rfl fun a hF => ?_
   refine step hF (Y.pick_f hF rfl hbv rfl) rfl fun a hF => ?_
   exact nil (then_n ⟨hF.weak ⟨rfl, rfl, rfl, rfl, rfl, (by rw [hbv]; rfl), trivial⟩, hS.weak ⟨rfl, trivial⟩⟩)
 intro a w hF hS
 refine nil (then_n ?_)
 refine cond_b hF rfl (fun hbv_1 => ?_) (fun hbv_1 => ?_)
 ·replace h := cond_t h hbv_1
  refine seq ?_
  refine region ?_
  refine step hF (Y.assign hF rfl) rfl fun a hF => ?_
  refine nil (then_n ?_)
  refine ret_ (then_r ?_)
  obtain rfl := some_inj h
  exact leaveP Tryd.results6 hF hS (.cons (.tmp rfl) .nil) .nil rfl
 ·replace h := cond_f h hbv_1
  refine skip_ (then_n ?_)
  refine seq ?_
  refine region ?_
  refine step hF (Y.loadNL 1 sz_26 hF rfl hS rfl rfl rfl) rfl fun a hF => ?_
  refine step hF (Y.move hF rfl) rfl fun a hF => ?_
  obtain ⟨rv_3, hx_3, h⟩ := bind_some h
  refine O.callP (us := [.agg #[.int .i64 c.Hours, .slice p c.Rates.length c_1, .slice p_1 c.Opens.length c_2, .slice p_2 c.Pairs.length c_3], .int .i64 hour]) ca_30 hF hS (beat_Best_ok hS.stab c hour hs hs_1 hs_2 hG rv_3 hx_3) rfl rfl fun a w hF hS => ?_
  refine step hF (Y.move hF rfl) rfl fun a hF => ?_
  refine step hF (Y.extract hF rfl rfl) rfl fun a hF => ?_
  refine step hF (Y.extract hF rfl rfl) rfl fun a hF => ?_
  refine step hF (Y.extract hF rfl rfl) rfl fun a hF => ?_
  refine step hF (Y.assign hF rfl) rfl fun a hF => ?_
  refine step hF (Y.assign hF rfl) rfl fun a hF => ?_
  refine step hF (Y.assign hF rfl) rfl fun a hF => ?_
  refine nil (then_n ?_)
  refine seq ?_
  refine region ?_
  refine step hF (Y.loadNL 1 sz_26 hF rfl hS rfl rfl rfl) rfl fun a hF => ?_
  refine step hF (Y.move hF rfl) rfl fun a hF => ?_
  obtain ⟨rv_4, hx_4, h⟩ := bind_some h
  refine O.callP (us := [.agg #[.int .i64 c.Hours, .slice p c.Rates.length c_1, .slice p_1 c.Opens.length c_2, .slice p_2 c.Pairs.length c_3], .int .i64 hour]) ca_31 hF hS (remontoirref02_Best_ok hS.stab c hour hs hs_1 hs_2 rv_4 hx_4) rfl rfl fun a w hF hS => ?_
  refine step hF (Y.move hF rfl) rfl fun a hF => ?_
  refine step hF (Y.extract hF rfl rfl) rfl fun a hF => ?_
  refine step hF (Y.extract hF rfl rfl) rfl fun a hF => ?_
  refine step hF (Y.extract hF rfl rfl) rfl fun a hF => ?_
  refine step hF (Y.assign hF rfl) rfl fun a hF => ?_
  refine step hF (Y.assign hF rfl) rfl fun a hF => ?_
  refine step hF (Y.assign hF rfl) rfl fun a hF => ?_
  refine nil (then_n ?_)
  refine seq ?_
  refine region ?_
  refine step hF (Y.move hF rfl) rfl fun a hF => ?_
  refine step hF (Y.move hF rfl) rfl fun a hF => ?_
  refine step hF (Y.eql hF rfl rfl) rfl fun a hF => ?_
  refine step hF (Y.move hF rfl) rfl fun a hF => ?_
  refine join (N := 62) (rs := []) (w0 := w0) (D0 := D0) 4 (us := [(4, .bool false), (6, .int .i64 rv_3.2.2), (8, .int .i64 rv_4.2.2), (53, .bool ((rv_3.1 == rv_4.1) && (rv_3.2.1 == rv_4.2.1)))]) (ms := [(1, .cells b [.int .i64 c.Hours, .slice p c.Rates.length c_1, .slice p_1 c.Opens.length c_2, .slice p_2 c.Pairs.length c_3] 26)]) (D' := Dv_1) ?_ ?_
  ·rcases bcases (rv_3.1 == rv_4.1) with hbv_2 | hbv_2
   ·-- true
    refine guard_on hF rfl rfl hbv_2 ?_
    refine step hF (Y.move hF rfl) rfl fun a hF => ?_
    refine guard_on hF rfl rfl hbv_2 ?_
    refine step hF (Y.move hF rfl) rfl fun a hF => ?_
    refine guard_on hF rfl rfl hbv_2 ?_
    refine step hF (Y.eql hF rfl rfl) rfl fun a hF => ?_
    refine step hF (Y.pick_t hF rfl hbv_2 rfl) rfl fun a hF => ?_
    exact nil (then_n ⟨hF.weak ⟨rfl, rfl, rfl, (by rw [hbv_2]; rfl), trivial⟩, hS.weak ⟨rfl, trivial⟩⟩)
   ·-- false
    refine guard_off hF rfl rfl hbv_2 rfl fun a hF => ?_
    refine guard_off hF rfl rfl hbv_2 rfl fun a hF => ?_
    refine guard_off hF rfl rfl hbv_2 rfl fun a hF => ?_
    refine step hF (Y.pick_f hF rfl hbv_2 rfl) rfl fun a hF => ?_
    exact nil (then_n ⟨hF.weak ⟨rfl, rfl, rfl, (by rw [hbv_2]; rfl), trivial⟩, hS.weak ⟨rfl, trivial⟩⟩)
  intro a w hF hS
  refine step hF (Y.move hF rfl) rfl fun a hF => ?_
  refine join (N := 62) (rs := []) (w0 := w0) (D0 := D0) 4 (us := [(4, .bool false), (58, .bool (((rv_3.1 == rv_4.1) && (rv_3.2.1 == rv_4.2.1)) && (rv_3.2.2 == rv_4.2.2)))]) (ms := [(1, .cells b [.int .i64 c.Hours, .slice p c.Rates.length c_1, .slice p_1 c.Opens.length c_2, .slice p_2 c.Pairs.length c_3] 26)]) (D' := Dv_1) ?_ ?_
  ·rcases bcases ((rv_3.1 == rv_4.1) && (rv_3.2.1 == rv_4.2.1)) with hbv_3 | hbv_3
   ·-- true
    refine guard_on hF rfl rfl hbv_3 ?_
    refine step hF (Y.move hF rfl) rfl fun a hF => ?_
    refine guard_on hF rfl rfl hbv_3 ?_
    refine step hF (Y.move hF rfl) rfl fun a hF => ?_
    refine guard_on hF rfl rfl hbv_3 ?_
    refine step hF (Y.eql hF rfl rfl) rfl fun a hF => ?_
    refine step hF (Y.pick_t hF rfl hbv_3 rfl) rfl fun a hF => ?_
    exact nil (then_n ⟨hF.weak ⟨rfl, (by rw [hbv_3]; rfl), trivial⟩, hS.weak ⟨rfl, trivial⟩⟩)
   ·-- false
    refine guard_off hF rfl rfl hbv_3 rfl fun a hF => ?_
    refine guard_off hF rfl rfl hbv_3 rfl fun a hF => ?_
    refine guard_off hF rfl rfl hbv_3 rfl fun a hF => ?_
    refine step hF (Y.pick_f hF rfl hbv_3 rfl) rfl fun a hF => ?_
    exact nil (then_n ⟨hF.weak ⟨rfl, (by rw [hbv_3]; rfl), trivial⟩, hS.weak ⟨rfl, trivial⟩⟩)
  intro a w hF hS
  refine step hF (Y.move hF rfl) rfl fun a hF => ?_
  obtain ⟨t, ht, h⟩ := bind_some h
  refine join (N := 62) (rs := []) (w0 := w0) (D0 := D0) 2 (us := [(4, .bool false), (61, .bool t)]) (ms := [(1, .cells b [.int .i64 c.Hours, .slice p c.Rates.length c_1, .slice p_1 c.Opens.length c_2, .slice p_2 c.Pairs.length c_3] 26)]) (D' := Dv_1) ?_ ?_
  ·rcases bcases (((rv_3.1 == rv_4.1) && (rv_3.2.1 == rv_4.2.1)) && (rv_3.2.2 == rv_4.2.2)) with hbv_4 | hbv_4
   ·-- true
    replace h := cond_t ht hbv_4
    refine guard_on hF rfl rfl hbv_4 ?_
    obtain ⟨rv_5, hx_5, h⟩ := bind_some h
    refine O.callP (us := []) ca_21 hF hS (remontoirlaw02_works_ok hS.stab hG rv_5 hx_5) rfl rfl fun a w hF hS => ?_
    refine step hF (Y.pick_t hF rfl hbv_4 rfl) rfl fun a hF => ?_
    obtain rfl := some_inj h
    exact nil (then_n ⟨hF.weak ⟨rfl, rfl, trivial⟩, hS.weak ⟨rfl, trivial⟩⟩)
   ·-- false
    replace h := cond_f ht hbv_4
    refine guard_off hF rfl rfl hbv_4 rfl fun a hF => ?_
    refine step hF (Y.pick_f hF rfl hbv_4 rfl) rfl fun a hF => ?_
    obtain rfl := some_inj h
    exact nil (then_n ⟨hF.weak ⟨rfl, rfl, trivial⟩, hS.weak ⟨rfl, trivial⟩⟩)
  intro a w hF hS
  refine step hF (Y.assign hF rfl) rfl fun a hF => ?_
  refine nil (then_n ?_)
  refine ret_ ?_
  obtain rfl := some_inj h
  exact leaveP Tryd.results6 hF hS (.cons (.tmp rfl) .nil) .nil rfl

end Go.Proofs.YtpniidbbbhbglaaDoor.Rt
