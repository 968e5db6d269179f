/- Walks of the functions of this seat: what each Go function comes to, as a Lean function, and the proof. A law. Under no conditions. -/
import Derived.Test.YtpniidbbbhbglaaDoorWRZ
set_option linter.unusedVariables false
set_option linter.unusedSimpArgs false
set_option maxRecDepth 100000
set_option maxHeartbeats 4000000
namespace Go.Proofs.YtpniidbbbhbglaaDoor.Rt
open Go Go.RowKit
noncomputable def remontoirlaw02_BeatApart (c : BeatCellar) (n : Arr3) (m : Arr3) : Option Bool :=
  (beat_Apart c n.a0 n.a1 n.a2).bind fun rv =>
  (remontoirref02_Apart c n.a0 n.a1 n.a2).bind fun rv_1 =>
  cond ((!([rv.1.Low, rv.1.High] == [rv_1.1.Low, rv_1.1.High])) || (rv.2 != rv_1.2))
  (some false)
  ((beat_Drift c m.a0 m.a1 m.a2).bind fun rv_2 =>
  (remontoirref02_Drift c m.a0 m.a1 m.a2).bind fun rv_3 =>
  (cond (([rv_2.1.Low, rv_2.1.High] == [rv_3.1.Low, rv_3.1.High]) && (rv_2.2 == rv_3.2)) ((remontoirlaw02_works).bind fun rv_4 =>
  some rv_4) (some false)).bind fun t =>
  some t)
theorem remontoirlaw02_BeatApart_ok {w0 : World} {D0 : Stab} (hD : D0.on w0) (c : BeatCellar) (n : Arr3) (m : Arr3) {p : Option Addr} {c_1 : Nat} {p_1 : Option Addr} {c_2 : Nat} {p_2 : Option Addr} {c_3 : Nat} (hs : SRc C_Span D0 c.Rates p c_1) (hs_1 : SRc C_BeatOpen D0 c.Opens p_1 c_2) (hs_2 : SRc C_BeatPair D0 c.Pairs p_2 c_3) (hG : Glob D0) (out : Bool) (h : remontoirlaw02_BeatApart c n m = some out) : Calls Tryd.prog 4 [.agg #[.int .i64 c.Hours, .slice p c.Rates.length c_1, .slice p_1 c.Opens.length c_2, .slice p_2 c.Pairs.length c_3], .agg #[.int .i64 n.a0, .int .i64 n.a1, .int .i64 n.a2], .agg #[.int .i64 m.a0, .int .i64 m.a1, .int .i64 m.a2]].toArray w0 (RetP D0 w0 (.bool out)) := by
 refine enter _ 74 Tryd.func4 rfl Tryd.ntmps4 rfl fun a hF => ?_
 replace hF : Frm 74 [] [(0, .agg #[.int .i64 c.Hours, .slice p c.Rates.length c_1, .slice p_1 c.Opens.length c_2, .slice p_2 c.Pairs.length c_3]), (1, .agg #[.int .i64 n.a0, .int .i64 n.a1, .int .i64 n.a2]), (2, .agg #[.int .i64 m.a0, .int .i64 m.a1, .int .i64 m.a2])] a := hF
 have hS := St.start hD
 unfold remontoirlaw02_BeatApart at h
 refine seq ?_
 refine region ?_
 refine O.box (cs := [.int .i64 c.Hours, .slice p c.Rates.length c_1, .slice p_1 c.Opens.length c_2, .slice p_2 c.Pairs.length c_3]) 1 hF rfl rfl hS rfl fun b a w hF hS => ?_
 refine O.box (cs := [.int .i64 n.a0, .int .i64 n.a1, .int .i64 n.a2]) 2 hF rfl rfl hS rfl fun b_1 a w hF hS => ?_
 refine O.box (cs := [.int .i64 m.a0, .int .i64 m.a1, .int .i64 m.a2]) 3 hF rfl rfl hS rfl fun b_2 a w hF hS => ?_
 refine step hF (Y.assign hF rfl) rfl fun a hF => ?_
 refine nil (then_n ?_)
 refine seq ?_
 refine region ?_
 refine step hF (Y.loadNL 1 sz_26 hF rfl hS rfl rfl rfl) rfl fun a hF => ?_
 refine step hF (Y.indexArr u_39 sz_3 hF rfl rfl (by decide) (by decide)) rfl fun a hF => ?_
 refine step hF (Y.load1L 2 sz_3 hF rfl hS rfl rfl) rfl fun a hF => ?_
 refine step hF (Y.indexArr u_39 sz_3 hF rfl rfl (by decide) (by decide)) rfl fun a hF => ?_
 refine step hF (Y.load1L 2 sz_3 hF rfl hS rfl rfl) rfl fun a hF => ?_
 refine step hF (Y.indexArr u_39 sz_3 hF rfl rfl (by decide) (by decide)) rfl fun a hF => ?_
 refine step hF (Y.load1L 2 sz_3 hF rfl hS rfl rfl) rfl fun a hF => ?_
 obtain ⟨rv, hx, h⟩ := bind_some h
 refine O.callP (us := [.agg #[.int .i64 c.Hours, .slice p c.Rates.length c_1, .slice p_1 c.Opens.length c_2, .slice p_2 c.Pairs.length c_3], .int .i64 n.a0, .int .i64 n.a1, .int .i64 n.a2]) ca_22 hF hS (beat_Apart_ok hS.stab c n.a0 n.a1 n.a2 hs hs_1 hs_2 hG rv hx) rfl rfl fun a w hF hS => ?_
 refine step hF (Y.move hF rfl) rfl fun a hF => ?_
 refine step hF (Y.extract hF rfl rfl) rfl fun a hF => ?_
 refine step hF (Y.extract hF rfl rfl) rfl fun a hF => ?_
 refine O.alloc 4 zc_34 hF hS rfl fun b_3 a w hF hS => ?_
 refine O.store (us := [.int .i64 rv.1.Low, .int .i64 rv.1.High]) 4 sz_34 hF rfl rfl rfl rfl hS rfl rfl fun a w hF hS => ?_
 refine step hF (Y.assign hF rfl) rfl fun a hF => ?_
 refine nil (then_n ?_)
 refine seq ?_
 refine region ?_
 refine step hF (Y.loadNL 1 sz_26 hF rfl hS rfl rfl rfl) rfl fun a hF => ?_
 refine step hF (Y.indexArr u_39 sz_3 hF rfl rfl (by decide) (by decide)) rfl fun a hF => ?_
 refine step hF (Y.load1L 2 sz_3 hF rfl hS rfl rfl) rfl fun a hF => ?_
 refine step hF (Y.indexArr u_39 sz_3 hF rfl rfl (by decide) (by decide)) rfl fun a hF => ?_
 refine step hF (Y.load1L 2 sz_3 hF rfl hS rfl rfl) rfl fun a hF => ?_
 refine step hF (Y.indexArr u_39 sz_3 hF rfl rfl (by decide) (by decide)) rfl fun a hF => ?_
 refine step hF (Y.load1L 2 sz_3 hF rfl hS rfl rfl) rfl fun a hF => ?_
 obtain ⟨rv_1, hx_1, h⟩ := bind_some h
 refine O.callP (us := [.agg #[.int .i64 c.Hours, .slice p c.Rates.length c_1, .slice p_1 c.Opens.length c_2, .slice p_2 c.Pairs.length c_3], .int .i64 n.a0, .int .i64 n.a1, .int .i64 n.a2]) ca_23 hF hS (remontoirref02_Apart_ok hS.stab c n.a0 n.a1 n.a2 hs hs_1 hs_2 rv_1 hx_1) rfl rfl fun a w hF hS => ?_
 refine step hF (Y.move hF rfl) rfl fun a hF => ?_
 refine step hF (Y.extract hF rfl rfl) rfl fun a hF => ?_
 refine step hF (Y.extract hF rfl rfl) rfl fun a hF => ?_
 refine O.alloc 5 zc_34 hF hS rfl fun b_4 a w hF hS => ?_
 refine O.store (us := [.int .i64 rv_1.1.Low, .int .i64 rv_1.1.High]) 5 sz_34 hF rfl rfl rfl rfl hS rfl rfl fun a w hF hS => ?_
 refine step hF (Y.assign hF rfl) rfl fun a hF => ?_
 refine nil (then_n ?_)
 refine seq ?_
 refine seq ?_
 refine region ?_
 refine step hF (Y.loadNL 4 sz_34 hF rfl hS rfl rfl rfl) rfl fun a hF => ?_
 refine step hF (Y.loadNL 5 sz_34 hF rfl hS rfl rfl rfl) rfl fun a hF => ?_
 refine step hF (Y.nest (fun w => eqT_34.equal (by decide) (l := [rv.1.Low, rv.1.High]) (m := [rv_1.1.Low, rv_1.1.High]) rfl rfl) (fun w => run_eqGuard_agg _ _ _ _ _ _ _ eg_34) hF rfl rfl) rfl fun a hF => ?_
 refine step hF (Y.move hF rfl) rfl fun a hF => ?_
 refine join (N := 74) (rs := []) (w0 := w0) (D0 := D0) 4 (us := [(3, .pointer (some ⟨b, 0, none⟩)), (5, .pointer (some ⟨b_2, 0, none⟩)), (6, .bool false), (7, .pointer (some ⟨b_3, 0, none⟩)), (8, .int .i64 rv.2), (9, .pointer (some ⟨b_4, 0, none⟩)), (10, .int .i64 rv_1.2), (40, .bool ((!([rv.1.Low, rv.1.High] == [rv_1.1.Low, rv_1.1.High])) || (rv.2 != rv_1.2)))]) (ms := [(1, .cells b [.int .i64 c.Hours, .slice p c.Rates.length c_1, .slice p_1 c.Opens.length c_2, .slice p_2 c.Pairs.length c_3] 26), (2, .cells b_1 [.int .i64 n.a0, .int .i64 n.a1, .int .i64 n.a2] 39), (3, .cells b_2 [.int .i64 m.a0, .int .i64 m.a1, .int .i64 m.a2] 39), (4, .cells b_3 [.int .i64 rv.1.Low, .int .i64 rv.1.High] 34), (5, .cells b_4 [.int .i64 rv_1.1.Low, .int .i64 rv_1.1.High] 34)]) (D' := D0) ?_ ?_
 ·rcases bcases (!([rv.1.Low, rv.1.High] == [rv_1.1.Low, rv_1.1.High])) with hbv | hbv
  ·-- true
   refine guard_off hF rfl rfl hbv rfl fun a hF => ?_
   refine guard_off hF rfl rfl hbv rfl fun a hF => ?_
   refine guard_off hF rfl rfl hbv rfl fun a hF => ?_
   refine step hF (Y.pick_t hF rfl hbv rfl) rfl fun a hF => ?_
   exact nil (then_n ⟨hF.weak ⟨rfl, rfl, rfl, rfl, rfl, rfl, rfl, (by rw [hbv]; rfl), trivial⟩, hS.weak ⟨rfl, rfl, rfl, rfl, rfl, trivial⟩⟩)
  ·-- false
   refine guard_on hF rfl rfl hbv ?_
   refine step hF (Y.move hF rfl) rfl fun a hF => ?_
   refine guard_on hF rfl rfl hbv ?_
   refine step hF (Y.move hF rfl) rfl fun a hF => ?_
   refine guard_on hF rfl rfl hbv ?_
   refine step hF (Y.neq hF rfl rfl) rfl fun a hF => ?_
   refine step hF (Y.pick_f hF rfl hbv rfl) rfl fun a hF => ?_
   exact nil (then_n ⟨hF.weak ⟨rfl, rfl, rfl, rfl, rfl, rfl, rfl, (by rw [hbv]; rfl), trivial⟩, hS.weak ⟨rfl, rfl, rfl, rfl, rfl, trivial⟩⟩)
 intro a w hF hS
 refine nil (then_n ?_)
 refine cond_b hF rfl (fun hbv_1 => ?_) (fun hbv_1 => ?_)
 ·replace h := cond_t h hbv_1
  refine seq ?_
  refine region ?_
  refine step hF (Y.assign hF rfl) rfl fun a hF => ?_
  refine nil (then_n ?_)
  refine ret_ (then_r ?_)
  obtain rfl := some_inj h
  exact leaveP Tryd.results4 hF hS (.cons (.tmp rfl) .nil) .nil rfl
 ·replace h := cond_f h hbv_1
  refine skip_ (then_n ?_)
  refine seq ?_
  refine region ?_
  refine step hF (Y.loadNL 1 sz_26 hF rfl hS rfl rfl rfl) rfl fun a hF => ?_
  refine step hF (Y.indexArr u_39 sz_3 hF rfl rfl (by decide) (by decide)) rfl fun a hF => ?_
  refine step hF (Y.load1L 3 sz_3 hF rfl hS rfl rfl) rfl fun a hF => ?_
  refine step hF (Y.indexArr u_39 sz_3 hF rfl rfl (by decide) (by decide)) rfl fun a hF => ?_
  refine step hF (Y.load1L 3 sz_3 hF rfl hS rfl rfl) rfl fun a hF => ?_
  refine step hF (Y.indexArr u_39 sz_3 hF rfl rfl (by decide) (by decide)) rfl fun a hF => ?_
  refine step hF (Y.load1L 3 sz_3 hF rfl hS rfl rfl) rfl fun a hF => ?_
  obtain ⟨rv_2, hx_2, h⟩ := bind_some h
  refine O.callP (us := [.agg #[.int .i64 c.Hours, .slice p c.Rates.length c_1, .slice p_1 c.Opens.length c_2, .slice p_2 c.Pairs.length c_3], .int .i64 m.a0, .int .i64 m.a1, .int .i64 m.a2]) ca_24 hF hS (beat_Drift_ok hS.stab c m.a0 m.a1 m.a2 hs hs_1 hs_2 hG rv_2 hx_2) rfl rfl fun a w hF hS => ?_
  refine step hF (Y.move hF rfl) rfl fun a hF => ?_
  refine step hF (Y.extract hF rfl rfl) rfl fun a hF => ?_
  refine step hF (Y.extract hF rfl rfl) rfl fun a hF => ?_
  refine O.store (us := [.int .i64 rv_2.1.Low, .int .i64 rv_2.1.High]) 4 sz_34 hF rfl rfl rfl rfl hS rfl rfl fun a w hF hS => ?_
  refine step hF (Y.assign hF rfl) rfl fun a hF => ?_
  refine nil (then_n ?_)
  refine seq ?_
  refine region ?_
  refine step hF (Y.loadNL 1 sz_26 hF rfl hS rfl rfl rfl) rfl fun a hF => ?_
  refine step hF (Y.indexArr u_39 sz_3 hF rfl rfl (by decide) (by decide)) rfl fun a hF => ?_
  refine step hF (Y.load1L 3 sz_3 hF rfl hS rfl rfl) rfl fun a hF => ?_
  refine step hF (Y.indexArr u_39 sz_3 hF rfl rfl (by decide) (by decide)) rfl fun a hF => ?_
  refine step hF (Y.load1L 3 sz_3 hF rfl hS rfl rfl) rfl fun a hF => ?_
  refine step hF (Y.indexArr u_39 sz_3 hF rfl rfl (by decide) (by decide)) rfl fun a hF => ?_
  refine step hF (Y.load1L 3 sz_3 hF rfl hS rfl rfl) rfl fun a hF => ?_
  obtain ⟨rv_3, hx_3, h⟩ := bind_some h
  refine O.callP (us := [.agg #[.int .i64 c.Hours, .slice p c.Rates.length c_1, .slice p_1 c.Opens.length c_2, .slice p_2 c.Pairs.length c_3], .int .i64 m.a0, .int .i64 m.a1, .int .i64 m.a2]) ca_25 hF hS (remontoirref02_Drift_ok hS.stab c m.a0 m.a1 m.a2 hs hs_1 hs_2 rv_3 hx_3) rfl rfl fun a w hF hS => ?_
  refine step hF (Y.move hF rfl) rfl fun a hF => ?_
  refine step hF (Y.extract hF rfl rfl) rfl fun a hF => ?_
  refine step hF (Y.extract hF rfl rfl) rfl fun a hF => ?_
  refine O.store (us := [.int .i64 rv_3.1.Low, .int .i64 rv_3.1.High]) 5 sz_34 hF rfl rfl rfl rfl hS rfl rfl fun a w hF hS => ?_
  refine step hF (Y.assign hF rfl) rfl fun a hF => ?_
  refine nil (then_n ?_)
  refine seq ?_
  refine region ?_
  refine step hF (Y.loadNL 4 sz_34 hF rfl hS rfl rfl rfl) rfl fun a hF => ?_
  refine step hF (Y.loadNL 5 sz_34 hF rfl hS rfl rfl rfl) rfl fun a hF => ?_
  refine step hF (Y.eqst (fun w => eqT_34.equal (by decide) (l := [rv_2.1.Low, rv_2.1.High]) (m := [rv_3.1.Low, rv_3.1.High]) rfl rfl) (fun w => run_eqGuard_agg _ _ _ _ _ _ _ eg_34) hF rfl rfl) rfl fun a hF => ?_
  refine step hF (Y.move hF rfl) rfl fun a hF => ?_
  refine join (N := 74) (rs := []) (w0 := w0) (D0 := D0) 4 (us := [(6, .bool false), (70, .bool (([rv_2.1.Low, rv_2.1.High] == [rv_3.1.Low, rv_3.1.High]) && (rv_2.2 == rv_3.2)))]) (ms := [(1, .cells b [.int .i64 c.Hours, .slice p c.Rates.length c_1, .slice p_1 c.Opens.length c_2, .slice p_2 c.Pairs.length c_3] 26), (2, .cells b_1 [.int .i64 n.a0, .int .i64 n.a1, .int .i64 n.a2] 39), (3, .cells b_2 [.int .i64 m.a0, .int .i64 m.a1, .int .i64 m.a2] 39), (4, .cells b_3 [.int .i64 rv_2.1.Low, .int .i64 rv_2.1.High] 34), (5, .cells b_4 [.int .i64 rv_3.1.Low, .int .i64 rv_3.1.High] 34)]) (D' := D0) ?_ ?_
  ·rcases bcases ([rv_2.1.Low, rv_2.1.High] == [rv_3.1.Low, rv_3.1.High]) with hbv_2 | hbv_2
   ·-- true
    refine guard_on hF rfl rfl hbv_2 ?_
    refine step hF (Y.move hF rfl) rfl fun a hF => ?_
    refine guard_on hF rfl rfl hbv_2 ?_
    refine step hF (Y.move hF rfl) rfl fun a hF => ?_
    refine guard_on hF rfl rfl hbv_2 ?_
    refine step hF (Y.eql hF rfl rfl) rfl fun a hF => ?_
    refine step hF (Y.pick_t hF rfl hbv_2 rfl) rfl fun a hF => ?_
    exact nil (then_n ⟨hF.weak ⟨rfl, (by rw [hbv_2]; rfl), trivial⟩, hS.weak ⟨rfl, rfl, rfl, rfl, rfl, trivial⟩⟩)
   ·-- false
    refine guard_off hF rfl rfl hbv_2 rfl fun a hF => ?_
    refine guard_off hF rfl rfl hbv_2 rfl fun a hF => ?_
    refine guard_off hF rfl rfl hbv_2 rfl fun a hF => ?_
    refine step hF (Y.pick_f hF rfl hbv_2 rfl) rfl fun a hF => ?_
    exact nil (then_n ⟨hF.weak ⟨rfl, (by rw [hbv_2]; rfl), trivial⟩, hS.weak ⟨rfl, rfl, rfl, rfl, rfl, trivial⟩⟩)
  intro a w hF hS
  refine step hF (Y.move hF rfl) rfl fun a hF => ?_
  obtain ⟨t, ht, h⟩ := bind_some h
  refine join (N := 74) (rs := []) (w0 := w0) (D0 := D0) 2 (us := [(6, .bool false), (73, .bool t)]) (ms := [(1, .cells b [.int .i64 c.Hours, .slice p c.Rates.length c_1, .slice p_1 c.Opens.length c_2, .slice p_2 c.Pairs.length c_3] 26), (2, .cells b_1 [.int .i64 n.a0, .int .i64 n.a1, .int .i64 n.a2] 39), (3, .cells b_2 [.int .i64 m.a0, .int .i64 m.a1, .int .i64 m.a2] 39), (4, .cells b_3 [.int .i64 rv_2.1.Low, .int .i64 rv_2.1.High] 34), (5, .cells b_4 [.int .i64 rv_3.1.Low, .int .i64 rv_3.1.High] 34)]) (D' := D0) ?_ ?_
  ·rcases bcases (([rv_2.1.Low, rv_2.1.High] == [rv_3.1.Low, rv_3.1.High]) && (rv_2.2 == rv_3.2)) with hbv_3 | hbv_3
   ·-- true
    replace h := cond_t ht hbv_3
    refine guard_on hF rfl rfl hbv_3 ?_
    obtain ⟨rv_4, hx_4, h⟩ := bind_some h
    refine O.callP (us := []) ca_21 hF hS (remontoirlaw02_works_ok hS.stab hG rv_4 hx_4) rfl rfl fun a w hF hS => ?_
    refine step hF (Y.pick_t hF rfl hbv_3 rfl) rfl fun a hF => ?_
    obtain rfl := some_inj h
    exact nil (then_n ⟨hF.weak ⟨rfl, rfl, trivial⟩, hS.weak ⟨rfl, rfl, rfl, rfl, rfl, trivial⟩⟩)
   ·-- false
    replace h := cond_f ht hbv_3
    refine guard_off hF rfl rfl hbv_3 rfl fun a hF => ?_
    refine step hF (Y.pick_f hF rfl hbv_3 rfl) rfl fun a hF => ?_
    obtain rfl := some_inj h
    exact nil (then_n ⟨hF.weak ⟨rfl, rfl, trivial⟩, hS.weak ⟨rfl, rfl, rfl, rfl, rfl, trivial⟩⟩)
  intro a w hF hS
  refine step hF (Y.assign hF rfl) rfl fun a hF => ?_
  refine nil (then_n ?_)
  refine ret_ ?_
  obtain rfl := some_inj h
  exact leaveP Tryd.results4 hF hS (.cons (.tmp rfl) .nil) .nil rfl

end Go.Proofs.YtpniidbbbhbglaaDoor.Rt
