/- Walks of the functions of this seat: what each Go function comes to, as a Lean function, and the proof. A law. Under no conditions. -/
import Derived.Test.YtgdfljiliflhfaaDoorC3WT1
set_option linter.unusedVariables false
set_option linter.unusedSimpArgs false
set_option maxRecDepth 100000
set_option maxHeartbeats 4000000
namespace Go.Proofs.YtgdfljiliflhfaaDoor.Rt
open Go Go.RowKit
noncomputable def remontoirtop_TopSent_k1 (rv_7 : (Int × Int × Int)) (rv_10 : (Int × Int)) (rv_15 : Int) (delay : Int) : Option Bool :=
  (r0Size (wr ((wr (delay - rv_7.1)) - rv_15))).bind fun rv_17 =>
  (cond (decide (rv_17 ≤ (wr (rv_7.2.1 + rv_10.1)))) ((remontoirtop_rung06).bind fun rv_18 =>
  some rv_18) (some false)).bind fun t_5 =>
  some t_5
noncomputable def remontoirtop_TopSent (n : LineNet) (b : ScaleBook) (k : Arr4) : Option Bool :=
  (line_Check n).bind fun rv =>
  (cond (rv != 0) (some true) ((scale_Check b).bind fun rv_1 =>
  some (rv_1 != 0))).bind fun t =>
  (cond t (some true) ((r0Lies n.Exchanges 1 7).bind fun rv_2 =>
  some (!rv_2))).bind fun t_1 =>
  (cond t_1 (some true) ((r0Lies b.Ticks 1 60).bind fun rv_3 =>
  some (!rv_3))).bind fun t_2 =>
  cond t_2
  ((remontoirtop_rung06).bind fun rv_4 =>
  some rv_4)
  ((r0Rest k.a0 n.Exchanges).bind fun rv_5 =>
  (r0Rest k.a1 (wr (b.Ticks + 1))).bind fun rv_6 =>
  (line_Correct n rv_5).bind fun rv_7 =>
  (line_Delay n rv_5).bind fun rv_8 =>
  (scale_Error b rv_6).bind fun rv_9 =>
  (scale_Stated b rv_6).bind fun rv_10 =>
  cond ((rv_7.2.2 != rv_8.2) || (rv_9.2 != rv_10.2))
  (some false)
  (cond ((rv_7.2.2 != 0) || (rv_9.2 != 0))
  ((cond ((((rv_7.2.2 == 0) || (rv_7.2.2 == 4)) || (rv_7.2.2 == 62)) && ((rv_9.2 == 0) || (rv_9.2 == 42))) ((remontoirtop_rung06).bind fun rv_11 =>
  some rv_11) (some false)).bind fun t_3 =>
  some t_3)
  ((r0Valid rv_8.1 0 6000).bind fun rv_12 =>
  (cond (!rv_12) (some true) ((r0Valid rv_9.1 (-20000) 20000).bind fun rv_13 =>
  some (!rv_13))).bind fun t_4 =>
  cond t_4
  (some false)
  ((r0From rv_8.1 k.a2).bind fun rv_14 =>
  (r0From rv_9.1 k.a3).bind fun rv_15 =>
  (line_Can n rv_5 rv_14).bind fun rv_16 =>
  cond (rv_16.2 != 0)
  (some false)
  (cond (!rv_16.1)
  (remontoirtop_TopSent_k1 rv_7 rv_10 rv_15 rv_8.1.Low)
  (remontoirtop_TopSent_k1 rv_7 rv_10 rv_15 rv_14))))))
theorem remontoirtop_TopSent_ok {w0 : World} {D0 : Stab} (hD : D0.on w0) (n : LineNet) (b : ScaleBook) (k : Arr4) {p : Option Addr} {c : Nat} {p_1 : Option Addr} {c_1 : Nat} {p_2 : Option Addr} {c_2 : Nat} {p_3 : Option Addr} {c_3 : Nat} (hs : SRc C_LineLine D0 n.Lines p c) (hs_1 : SRc C_LineLoop D0 n.Loops p_1 c_1) (hs_2 : SRc C_int D0 b.Steer p_2 c_2) (hs_3 : SRc C_ScaleLook D0 b.Looks p_3 c_3) (hG : Glob D0) (out : Bool) (h : remontoirtop_TopSent n b k = some out) : Calls Tryd.prog 3 [.agg #[iv n.Exchanges, .slice p n.Lines.length c, iv n.Hops, .slice p_1 n.Loops.length c_1], .agg #[iv b.Rule.Fast, iv b.Rule.Slow, iv b.Rule.Jerk, iv b.Rule.Drift.Low, iv b.Rule.Drift.High, iv b.Ticks, .slice p_2 b.Steer.length c_2, .slice p_3 b.Looks.length c_3], .agg #[iv k.a0, iv k.a1, iv k.a2, iv k.a3]].toArray w0 (RetP D0 w0 (.bool out)) := by
 refine enter _ 157 Tryd.func3 rfl Tryd.ntmps3 rfl fun a hF => ?_
 replace hF : Frm 157 [] [(0, .agg #[iv n.Exchanges, .slice p n.Lines.length c, iv n.Hops, .slice p_1 n.Loops.length c_1]), (1, .agg #[iv b.Rule.Fast, iv b.Rule.Slow, iv b.Rule.Jerk, iv b.Rule.Drift.Low, iv b.Rule.Drift.High, iv b.Ticks, .slice p_2 b.Steer.length c_2, .slice p_3 b.Looks.length c_3]), (2, .agg #[iv k.a0, iv k.a1, iv k.a2, iv k.a3])] a := hF
 have hS := St.start hD
 unfold remontoirtop_TopSent at h
 refine seq (region (O.box (cs := [iv n.Exchanges, .slice p n.Lines.length c, iv n.Hops, .slice p_1 n.Loops.length c_1]) 1 hF rfl rfl hS rfl fun b_1 a w hF hS => O.box (cs := [iv b.Rule.Fast, iv b.Rule.Slow, iv b.Rule.Jerk, iv b.Rule.Drift.Low, iv b.Rule.Drift.High, iv b.Ticks, .slice p_2 b.Steer.length c_2, .slice p_3 b.Looks.length c_3]) 2 hF rfl rfl hS rfl fun b_2 a w hF hS => O.box (cs := [iv k.a0, iv k.a1, iv k.a2, iv k.a3]) 3 hF rfl rfl hS rfl fun b_3 a w hF hS => step hF (Y.assign hF rfl) rfl fun a hF => nT (seq (seq (region (step hF (Y.loadNL 1 sz_25 hF rfl hS rfl rfl rfl) rfl fun a hF => ?_))))))
 obtain ⟨rv, hx, h⟩ := bind_some h
 refine O.callP (us := [.agg #[iv n.Exchanges, .slice p n.Lines.length c, iv n.Hops, .slice p_1 n.Loops.length c_1]]) ca_4 hF hS (line_Check_ok hS.stab n hs hs_1 rv hx) rfl rfl fun a w hF hS => step hF (Y.neq hF rfl rfl) rfl fun a hF => step hF (Y.move hF rfl) rfl fun a hF => ?_
 obtain ⟨t, ht, h⟩ := bind_some h
 refine join (N := 157) (rs := []) (w0 := w0) (D0 := D0) 4 (us := [(3, .pointer (some ⟨b_1, 0, none⟩)), (4, .pointer (some ⟨b_2, 0, none⟩)), (5, .pointer (some ⟨b_3, 0, none⟩)), (6, .bool false), (29, .bool t)]) (ms := [(1, .cells b_1 [iv n.Exchanges, .slice p n.Lines.length c, iv n.Hops, .slice p_1 n.Loops.length c_1] 25), (2, .cells b_2 [iv b.Rule.Fast, iv b.Rule.Slow, iv b.Rule.Jerk, iv b.Rule.Drift.Low, iv b.Rule.Drift.High, iv b.Ticks, .slice p_2 b.Steer.length c_2, .slice p_3 b.Looks.length c_3] 33), (3, .cells b_3 [iv k.a0, iv k.a1, iv k.a2, iv k.a3] 34)]) (D' := D0) ?_ ?_
 ·rcases bcases (rv != 0) with hbv | hbv
  ·skip
   replace h := cond_t ht hbv
   refine guard_off hF rfl rfl hbv rfl fun a hF => guard_off hF rfl rfl hbv rfl fun a hF => guard_off hF rfl rfl hbv rfl fun a hF => step hF (Y.pick_t hF rfl hbv rfl) rfl fun a hF => ?_
   obtain rfl := some_inj h
   exact nT ⟨hF.weak (AF rfl), hS.weak (AL rfl)⟩
  replace h := cond_f ht hbv
  refine guard_on hF rfl rfl hbv (step hF (Y.loadNL 2 sz_33 hF rfl hS rfl rfl rfl) rfl fun a hF => guard_on hF rfl rfl hbv ?_)
  obtain ⟨rv_1, hx_1, h⟩ := bind_some h
  refine O.callP (us := [.agg #[iv b.Rule.Fast, iv b.Rule.Slow, iv b.Rule.Jerk, iv b.Rule.Drift.Low, iv b.Rule.Drift.High, iv b.Ticks, .slice p_2 b.Steer.length c_2, .slice p_3 b.Looks.length c_3]]) ca_5 hF hS (scale_Check_ok hS.stab b hs_2 hs_3 rv_1 hx_1) rfl rfl fun a w hF hS => guard_on hF rfl rfl hbv (step hF (Y.neq hF rfl rfl) rfl fun a hF => step hF (Y.pick_f hF rfl hbv rfl) rfl fun a hF => ?_)
  obtain rfl := some_inj h
  exact nT ⟨hF.weak (AF rfl), hS.weak (AL rfl)⟩
 intro a w hF hS
 refine step hF (Y.move hF rfl) rfl fun a hF => ?_
 obtain ⟨t_1, ht_1, h⟩ := bind_some h
 refine join (N := 157) (rs := []) (w0 := w0) (D0 := D0) 5 (us := [(3, .pointer (some ⟨b_1, 0, none⟩)), (4, .pointer (some ⟨b_2, 0, none⟩)), (5, .pointer (some ⟨b_3, 0, none⟩)), (6, .bool false), (35, .bool t_1)]) (ms := [(1, .cells b_1 [iv n.Exchanges, .slice p n.Lines.length c, iv n.Hops, .slice p_1 n.Loops.length c_1] 25), (2, .cells b_2 [iv b.Rule.Fast, iv b.Rule.Slow, iv b.Rule.Jerk, iv b.Rule.Drift.Low, iv b.Rule.Drift.High, iv b.Ticks, .slice p_2 b.Steer.length c_2, .slice p_3 b.Looks.length c_3] 33), (3, .cells b_3 [iv k.a0, iv k.a1, iv k.a2, iv k.a3] 34)]) (D' := D0) ?_ ?_
 ·rcases bcases t with hbv_1 | hbv_1
  ·skip
   replace h := cond_t ht_1 hbv_1
   refine guard_off hF rfl rfl hbv_1 rfl fun a hF => guard_off hF rfl rfl hbv_1 rfl fun a hF => guard_off hF rfl rfl hbv_1 rfl fun a hF => guard_off hF rfl rfl hbv_1 rfl fun a hF => step hF (Y.pick_t hF rfl hbv_1 rfl) rfl fun a hF => ?_
   obtain rfl := some_inj h
   exact nT ⟨hF.weak (AF rfl), hS.weak (AL rfl)⟩
  replace h := cond_f ht_1 hbv_1
  refine guard_on hF rfl rfl hbv_1 (step hF (Y.fieldAddr fo_25_0 hF rfl) rfl fun a hF => guard_on hF rfl rfl hbv_1 (step hF (Y.load1L 1 sz_3 hF rfl hS rfl rfl) rfl fun a hF => guard_on hF rfl rfl hbv_1 ?_))
  obtain ⟨rv_2, hx_2, h⟩ := bind_some h
  refine O.callP (us := [iv n.Exchanges, iv 1, iv 7]) ca_6 hF hS (r0Lies_ok hS.stab n.Exchanges 1 7 rv_2 hx_2) rfl rfl fun a w hF hS => guard_on hF rfl rfl hbv_1 (step hF (Y.not hF rfl) rfl fun a hF => step hF (Y.pick_f hF rfl hbv_1 rfl) rfl fun a hF => ?_)
  obtain rfl := some_inj h
  exact nT ⟨hF.weak (AF rfl), hS.weak (AL rfl)⟩
 intro a w hF hS
 refine step hF (Y.move hF rfl) rfl fun a hF => ?_
 obtain ⟨t_2, ht_2, h⟩ := bind_some h
 refine join (N := 157) (rs := []) (w0 := w0) (D0 := D0) 5 (us := [(3, .pointer (some ⟨b_1, 0, none⟩)), (4, .pointer (some ⟨b_2, 0, none⟩)), (5, .pointer (some ⟨b_3, 0, none⟩)), (6, .bool false), (41, .bool t_2)]) (ms := [(1, .cells b_1 [iv n.Exchanges, .slice p n.Lines.length c, iv n.Hops, .slice p_1 n.Loops.length c_1] 25), (2, .cells b_2 [iv b.Rule.Fast, iv b.Rule.Slow, iv b.Rule.Jerk, iv b.Rule.Drift.Low, iv b.Rule.Drift.High, iv b.Ticks, .slice p_2 b.Steer.length c_2, .slice p_3 b.Looks.length c_3] 33), (3, .cells b_3 [iv k.a0, iv k.a1, iv k.a2, iv k.a3] 34)]) (D' := D0) ?_ ?_
 ·rcases bcases t_1 with hbv_2 | hbv_2
  ·skip
   replace h := cond_t ht_2 hbv_2
   refine guard_off hF rfl rfl hbv_2 rfl fun a hF => guard_off hF rfl rfl hbv_2 rfl fun a hF => guard_off hF rfl rfl hbv_2 rfl fun a hF => guard_off hF rfl rfl hbv_2 rfl fun a hF => step hF (Y.pick_t hF rfl hbv_2 rfl) rfl fun a hF => ?_
   obtain rfl := some_inj h
   exact nT ⟨hF.weak (AF rfl), hS.weak (AL rfl)⟩
  replace h := cond_f ht_2 hbv_2
  refine guard_on hF rfl rfl hbv_2 (step hF (Y.fieldAddr fo_33_1 hF rfl) rfl fun a hF => guard_on hF rfl rfl hbv_2 (step hF (Y.load1L 2 sz_3 hF rfl hS rfl rfl) rfl fun a hF => guard_on hF rfl rfl hbv_2 ?_))
  obtain ⟨rv_3, hx_3, h⟩ := bind_some h
  refine O.callP (us := [iv b.Ticks, iv 1, iv 60]) ca_6 hF hS (r0Lies_ok hS.stab b.Ticks 1 60 rv_3 hx_3) rfl rfl fun a w hF hS => guard_on hF rfl rfl hbv_2 (step hF (Y.not hF rfl) rfl fun a hF => step hF (Y.pick_f hF rfl hbv_2 rfl) rfl fun a hF => ?_)
  obtain rfl := some_inj h
  exact nT ⟨hF.weak (AF rfl), hS.weak (AL rfl)⟩
 intro a w hF hS
 refine nT (cond_b hF rfl (fun hbv_3 => ?_) (fun hbv_3 => ?_))
 ·replace h := cond_t h hbv_3
  refine seq (region ?_)
  obtain ⟨rv_4, hx_4, h⟩ := bind_some h
  refine O.callP (us := []) ca_7 hF hS (remontoirtop_rung06_ok hS.stab hG rv_4 hx_4) rfl rfl fun a w hF hS => step hF (Y.assign hF rfl) rfl fun a hF => nT (ret_ (then_r ?_))
  obtain rfl := some_inj h
  exact leaveP Tryd.results3 hF hS (.cons (.tmp rfl) .nil) .nil rfl
 replace h := cond_f h hbv_3
 refine skip_ (then_n (seq ?_))
 obtain ⟨rv_5, hx_5, h⟩ := bind_some h
 refine drawsV 10 (.flt 0 (.flt 1 (.flt 2 (.flt 3 (.flt 5 (.flt 6 (.flt 7 (.flt 8 (.flt 9 (.alt 4 .done .stop)))))))))) mixed_ (by kernel_rfl) (fun w => St w0 D0 D0 [(1, .cells b_1 [iv n.Exchanges, .slice p n.Lines.length c, iv n.Hops, .slice p_1 n.Loops.length c_1] 25), (2, .cells b_2 [iv b.Rule.Fast, iv b.Rule.Slow, iv b.Rule.Jerk, iv b.Rule.Drift.Low, iv b.Rule.Drift.High, iv b.Ticks, .slice p_2 b.Steer.length c_2, .slice p_3 b.Looks.length c_3] 33), (3, .cells b_3 [iv k.a0, iv k.a1, iv k.a2, iv k.a3] 34)] w) (fun a w => Frm 157 [] [(3, .pointer (some ⟨b_1, 0, none⟩)), (4, .pointer (some ⟨b_2, 0, none⟩)), (5, .pointer (some ⟨b_3, 0, none⟩)), (6, .bool false), (47, iv rv_5), (49, iv k.a1), (52, iv (wr (b.Ticks + 1)))] a ∧ St w0 D0 D0 [(1, .cells b_1 [iv n.Exchanges, .slice p n.Lines.length c, iv n.Hops, .slice p_1 n.Loops.length c_1] 25), (2, .cells b_2 [iv b.Rule.Fast, iv b.Rule.Slow, iv b.Rule.Jerk, iv b.Rule.Drift.Low, iv b.Rule.Drift.High, iv b.Ticks, .slice p_2 b.Steer.length c_2, .slice p_3 b.Looks.length c_3] 33), (3, .cells b_3 [iv k.a0, iv k.a1, iv k.a2, iv k.a3] 34)] w) (hS.weak (ms := [(1, .cells b_1 [iv n.Exchanges, .slice p n.Lines.length c, iv n.Hops, .slice p_1 n.Loops.length c_1] 25), (2, .cells b_2 [iv b.Rule.Fast, iv b.Rule.Slow, iv b.Rule.Jerk, iv b.Rule.Drift.Low, iv b.Rule.Drift.High, iv b.Ticks, .slice p_2 b.Steer.length c_2, .slice p_3 b.Looks.length c_3] 33), (3, .cells b_3 [iv k.a0, iv k.a1, iv k.a2, iv k.a3] 34)]) (AL rfl)).drew (fun _ _ _ _ h => h) ?_ ?_
 ·replace hS := hS.drew
  have hle0 := hS.le
  refine stepV (i := 0) rfl hF (fun w hS => Y.indexArr u_34 sz_3 hF rfl rfl (by decide) (by decide)) rfl fun a hF => stepV (i := 1) rfl hF (fun w hS => Y.load1L 3 sz_3 hF rfl hS rfl rfl) rfl fun a hF => stepV (i := 2) rfl hF (fun w hS => Y.fieldAddr fo_25_0 hF rfl) rfl fun a hF => stepV (i := 3) rfl hF (fun w hS => Y.load1L 1 sz_3 hF rfl hS rfl rfl) rfl fun a hF => stepV (i := 5) rfl hF (fun w hS => Y.indexArr u_34 sz_3 hF rfl rfl (by decide) (by decide)) rfl fun a hF => stepV (i := 6) rfl hF (fun w hS => Y.load1L 3 sz_3 hF rfl hS rfl rfl) rfl fun a hF => stepV (i := 7) rfl hF (fun w hS => Y.fieldAddr fo_33_1 hF rfl) rfl fun a hF => stepV (i := 8) rfl hF (fun w hS => Y.load1L 2 sz_3 hF rfl hS rfl rfl) rfl fun a hF => stepV (i := 9) rfl hF (fun w hS => Y.add hF rfl rfl) rfl fun a hF => oneV (i := 4) rfl ?_ trivial
  refine O.callP (us := [iv k.a0, iv n.Exchanges]) ca_8 hF hS (r0Rest_ok hS.stab k.a0 n.Exchanges rv_5 hx_5) rfl rfl fun a w hF hS => nT ⟨hS.weak (AL rfl), ?_⟩
  exact toTailV ⟨hF.weak (AF rfl), hS.weak (AL rfl)⟩
 rintro a w ⟨hF, hS⟩
 obtain ⟨rv_6, hx_6, h⟩ := bind_some h
 refine O.callP (us := [iv k.a1, iv (wr (b.Ticks + 1))]) ca_8 hF hS (r0Rest_ok hS.stab k.a1 (wr (b.Ticks + 1)) rv_6 hx_6) rfl rfl fun a w hF hS => step hF (Y.assign hF rfl) rfl fun a hF => step hF (Y.assign hF rfl) rfl fun a hF => nT (seq (region (step hF (Y.loadNL 1 sz_25 hF rfl hS rfl rfl rfl) rfl fun a hF => step hF (Y.move hF rfl) rfl fun a hF => ?_)))
 obtain ⟨rv_7, hx_7, h⟩ := bind_some h
 refine O.callP (us := [.agg #[iv n.Exchanges, .slice p n.Lines.length c, iv n.Hops, .slice p_1 n.Loops.length c_1], iv rv_5]) ca_9 hF hS (line_Correct_ok hS.stab n rv_5 hs hs_1 hG rv_7 hx_7) rfl rfl fun a w hF hS => step hF (Y.move hF rfl) rfl fun a hF => step hF (Y.extract hF rfl rfl) rfl fun a hF => step hF (Y.extract hF rfl rfl) rfl fun a hF => step hF (Y.extract hF rfl rfl) rfl fun a hF => step hF (Y.assign hF rfl) rfl fun a hF => step hF (Y.assign hF rfl) rfl fun a hF => step hF (Y.assign hF rfl) rfl fun a hF => nT (seq (region (step hF (Y.loadNL 1 sz_25 hF rfl hS rfl rfl rfl) rfl fun a hF => step hF (Y.move hF rfl) rfl fun a hF => ?_)))
 obtain ⟨rv_8, hx_8, h⟩ := bind_some h
 refine O.callP (us := [.agg #[iv n.Exchanges, .slice p n.Lines.length c, iv n.Hops, .slice p_1 n.Loops.length c_1], iv rv_5]) ca_10 hF hS (line_Delay_ok hS.stab n rv_5 hs hs_1 hG rv_8 hx_8) rfl rfl fun a w hF hS => step hF (Y.move hF rfl) rfl fun a hF => step hF (Y.extract hF rfl rfl) rfl fun a hF => step hF (Y.extract hF rfl rfl) rfl fun a hF => O.alloc 4 zc_27 hF hS rfl fun b_4 a w hF hS => O.store (us := [iv rv_8.1.Low, iv rv_8.1.High]) 4 sz_27 hF rfl rfl rfl rfl hS rfl rfl fun a w hF hS => step hF (Y.assign hF rfl) rfl fun a hF => nT (seq (region (step hF (Y.loadNL 2 sz_33 hF rfl hS rfl rfl rfl) rfl fun a hF => step hF (Y.move hF rfl) rfl fun a hF => ?_)))
 obtain ⟨rv_9, hx_9, h⟩ := bind_some h
 refine O.callP (us := [.agg #[iv b.Rule.Fast, iv b.Rule.Slow, iv b.Rule.Jerk, iv b.Rule.Drift.Low, iv b.Rule.Drift.High, iv b.Ticks, .slice p_2 b.Steer.length c_2, .slice p_3 b.Looks.length c_3], iv rv_6]) ca_11 hF hS (scale_Error_ok hS.stab b rv_6 hs_2 hs_3 rv_9 hx_9) rfl rfl fun a w hF hS => step hF (Y.move hF rfl) rfl fun a hF => step hF (Y.extract hF rfl rfl) rfl fun a hF => step hF (Y.extract hF rfl rfl) rfl fun a hF => O.alloc 5 zc_27 hF hS rfl fun b_5 a w hF hS => O.store (us := [iv rv_9.1.Low, iv rv_9.1.High]) 5 sz_27 hF rfl rfl rfl rfl hS rfl rfl fun a w hF hS => step hF (Y.assign hF rfl) rfl fun a hF => nT (seq (region (step hF (Y.loadNL 2 sz_33 hF rfl hS rfl rfl rfl) rfl fun a hF => step hF (Y.move hF rfl) rfl fun a hF => ?_)))
 obtain ⟨rv_10, hx_10, h⟩ := bind_some h
 refine O.callP (us := [.agg #[iv b.Rule.Fast, iv b.Rule.Slow, iv b.Rule.Jerk, iv b.Rule.Drift.Low, iv b.Rule.Drift.High, iv b.Ticks, .slice p_2 b.Steer.length c_2, .slice p_3 b.Looks.length c_3], iv rv_6]) ca_12 hF hS (scale_Stated_ok hS.stab b rv_6 hs_2 hs_3 rv_10 hx_10) rfl rfl fun a w hF hS => step hF (Y.move hF rfl) rfl fun a hF => step hF (Y.extract hF rfl rfl) rfl fun a hF => step hF (Y.extract hF rfl rfl) rfl fun a hF => step hF (Y.assign hF rfl) rfl fun a hF => step hF (Y.assign hF rfl) rfl fun a hF => nT (seq (seq (region (step hF (Y.move hF rfl) rfl fun a hF => step hF (Y.move hF rfl) rfl fun a hF => step hF (Y.neq hF rfl rfl) rfl fun a hF => step hF (Y.move hF rfl) rfl fun a hF => join (N := 157) (rs := []) (w0 := w0) (D0 := D0) 4 (us := [(3, .pointer (some ⟨b_1, 0, none⟩)), (5, .pointer (some ⟨b_3, 0, none⟩)), (6, .bool false), (7, iv rv_5), (9, iv rv_7.1), (10, iv rv_7.2.1), (11, iv rv_7.2.2), (12, .pointer (some ⟨b_4, 0, none⟩)), (14, .pointer (some ⟨b_5, 0, none⟩)), (15, iv rv_9.2), (16, iv rv_10.1), (86, .bool ((rv_7.2.2 != rv_8.2) || (rv_9.2 != rv_10.2)))]) (ms := [(1, .cells b_1 [iv n.Exchanges, .slice p n.Lines.length c, iv n.Hops, .slice p_1 n.Loops.length c_1] 25), (2, .cells b_2 [iv b.Rule.Fast, iv b.Rule.Slow, iv b.Rule.Jerk, iv b.Rule.Drift.Low, iv b.Rule.Drift.High, iv b.Ticks, .slice p_2 b.Steer.length c_2, .slice p_3 b.Looks.length c_3] 33), (3, .cells b_3 [iv k.a0, iv k.a1, iv k.a2, iv k.a3] 34), (4, .cells b_4 [iv rv_8.1.Low, iv rv_8.1.High] 27), (5, .cells b_5 [iv rv_9.1.Low, iv rv_9.1.High] 27)]) (D' := D0) ?_ ?_))))
 ·rcases bcases (rv_7.2.2 != rv_8.2) with hbv_4 | hbv_4
  ·skip
   refine guard_off hF rfl rfl hbv_4 rfl fun a hF => guard_off hF rfl rfl hbv_4 rfl fun a hF => guard_off hF rfl rfl hbv_4 rfl fun a hF => step hF (Y.pick_t hF rfl hbv_4 rfl) rfl fun a hF => nT ⟨hF.weak ⟨rfl, rfl, rfl, rfl, rfl, rfl, rfl, rfl, rfl, rfl, rfl, (by rw [hbv_4]; rfl), trivial⟩, hS.weak (AL rfl)⟩
  refine guard_on hF rfl rfl hbv_4 (step hF (Y.move hF rfl) rfl fun a hF => guard_on hF rfl rfl hbv_4 (step hF (Y.move hF rfl) rfl fun a hF => guard_on hF rfl rfl hbv_4 (step hF (Y.neq hF rfl rfl) rfl fun a hF => step hF (Y.pick_f hF rfl hbv_4 rfl) rfl fun a hF => nT ⟨hF.weak ⟨rfl, rfl, rfl, rfl, rfl, rfl, rfl, rfl, rfl, rfl, rfl, (by rw [hbv_4]; rfl), trivial⟩, hS.weak (AL rfl)⟩)))
 intro a w hF hS
 refine nT (cond_b hF rfl (fun hbv_5 => ?_) (fun hbv_5 => ?_))
 ·replace h := cond_t h hbv_5
  refine seq (region (step hF (Y.assign hF rfl) rfl fun a hF => nT (ret_ (then_r ?_))))
  obtain rfl := some_inj h
  exact leaveP Tryd.results3 hF hS (.cons (.tmp rfl) .nil) .nil rfl
 replace h := cond_f h hbv_5
 refine skip_ (then_n (seq (seq (region (step hF (Y.move hF rfl) rfl fun a hF => step hF (Y.neq hF rfl rfl) rfl fun a hF => step hF (Y.move hF rfl) rfl fun a hF => join (N := 157) (rs := []) (w0 := w0) (D0 := D0) 3 (us := [(3, .pointer (some ⟨b_1, 0, none⟩)), (5, .pointer (some ⟨b_3, 0, none⟩)), (6, .bool false), (7, iv rv_5), (9, iv rv_7.1), (10, iv rv_7.2.1), (11, iv rv_7.2.2), (12, .pointer (some ⟨b_4, 0, none⟩)), (14, .pointer (some ⟨b_5, 0, none⟩)), (15, iv rv_9.2), (16, iv rv_10.1), (92, .bool ((rv_7.2.2 != 0) || (rv_9.2 != 0)))]) (ms := [(1, .cells b_1 [iv n.Exchanges, .slice p n.Lines.length c, iv n.Hops, .slice p_1 n.Loops.length c_1] 25), (2, .cells b_2 [iv b.Rule.Fast, iv b.Rule.Slow, iv b.Rule.Jerk, iv b.Rule.Drift.Low, iv b.Rule.Drift.High, iv b.Ticks, .slice p_2 b.Steer.length c_2, .slice p_3 b.Looks.length c_3] 33), (3, .cells b_3 [iv k.a0, iv k.a1, iv k.a2, iv k.a3] 34), (4, .cells b_4 [iv rv_8.1.Low, iv rv_8.1.High] 27), (5, .cells b_5 [iv rv_9.1.Low, iv rv_9.1.High] 27)]) (D' := D0) ?_ ?_)))))
 ·rcases bcases (rv_7.2.2 != 0) with hbv_6 | hbv_6
  ·skip
   refine guard_off hF rfl rfl hbv_6 rfl fun a hF => guard_off hF rfl rfl hbv_6 rfl fun a hF => step hF (Y.pick_t hF rfl hbv_6 rfl) rfl fun a hF => nT ⟨hF.weak ⟨rfl, rfl, rfl, rfl, rfl, rfl, rfl, rfl, rfl, rfl, rfl, (by rw [hbv_6]; rfl), trivial⟩, hS.weak (AL rfl)⟩
  refine guard_on hF rfl rfl hbv_6 (step hF (Y.move hF rfl) rfl fun a hF => guard_on hF rfl rfl hbv_6 (step hF (Y.neq hF rfl rfl) rfl fun a hF => step hF (Y.pick_f hF rfl hbv_6 rfl) rfl fun a hF => nT ⟨hF.weak ⟨rfl, rfl, rfl, rfl, rfl, rfl, rfl, rfl, rfl, rfl, rfl, (by rw [hbv_6]; rfl), trivial⟩, hS.weak (AL rfl)⟩))
 intro a w hF hS
 refine nT (cond_b hF rfl (fun hbv_7 => ?_) (fun hbv_7 => ?_))
 ·replace h := cond_t h hbv_7
  refine seq (region (step hF (Y.move hF rfl) rfl fun a hF => step hF (Y.eql hF rfl rfl) rfl fun a hF => step hF (Y.move hF rfl) rfl fun a hF => join (N := 157) (rs := []) (w0 := w0) (D0 := D0) 3 (us := [(3, .pointer (some ⟨b_1, 0, none⟩)), (5, .pointer (some ⟨b_3, 0, none⟩)), (6, .bool false), (7, iv rv_5), (9, iv rv_7.1), (10, iv rv_7.2.1), (11, iv rv_7.2.2), (12, .pointer (some ⟨b_4, 0, none⟩)), (14, .pointer (some ⟨b_5, 0, none⟩)), (15, iv rv_9.2), (16, iv rv_10.1), (98, .bool ((rv_7.2.2 == 0) || (rv_7.2.2 == 4)))]) (ms := [(1, .cells b_1 [iv n.Exchanges, .slice p n.Lines.length c, iv n.Hops, .slice p_1 n.Loops.length c_1] 25), (2, .cells b_2 [iv b.Rule.Fast, iv b.Rule.Slow, iv b.Rule.Jerk, iv b.Rule.Drift.Low, iv b.Rule.Drift.High, iv b.Ticks, .slice p_2 b.Steer.length c_2, .slice p_3 b.Looks.length c_3] 33), (3, .cells b_3 [iv k.a0, iv k.a1, iv k.a2, iv k.a3] 34), (4, .cells b_4 [iv rv_8.1.Low, iv rv_8.1.High] 27), (5, .cells b_5 [iv rv_9.1.Low, iv rv_9.1.High] 27)]) (D' := D0) ?_ ?_))
  ·rcases bcases (rv_7.2.2 == 0) with hbv_8 | hbv_8
   ·skip
    refine guard_off hF rfl rfl hbv_8 rfl fun a hF => guard_off hF rfl rfl hbv_8 rfl fun a hF => step hF (Y.pick_t hF rfl hbv_8 rfl) rfl fun a hF => nT ⟨hF.weak ⟨rfl, rfl, rfl, rfl, rfl, rfl, rfl, rfl, rfl, rfl, rfl, (by rw [hbv_8]; rfl), trivial⟩, hS.weak (AL rfl)⟩
   refine guard_on hF rfl rfl hbv_8 (step hF (Y.move hF rfl) rfl fun a hF => guard_on hF rfl rfl hbv_8 (step hF (Y.eql hF rfl rfl) rfl fun a hF => step hF (Y.pick_f hF rfl hbv_8 rfl) rfl fun a hF => nT ⟨hF.weak ⟨rfl, rfl, rfl, rfl, rfl, rfl, rfl, rfl, rfl, rfl, rfl, (by rw [hbv_8]; rfl), trivial⟩, hS.weak (AL rfl)⟩))
  intro a w hF hS
  refine step hF (Y.move hF rfl) rfl fun a hF => join (N := 157) (rs := []) (w0 := w0) (D0 := D0) 3 (us := [(3, .pointer (some ⟨b_1, 0, none⟩)), (5, .pointer (some ⟨b_3, 0, none⟩)), (6, .bool false), (7, iv rv_5), (9, iv rv_7.1), (10, iv rv_7.2.1), (11, iv rv_7.2.2), (12, .pointer (some ⟨b_4, 0, none⟩)), (14, .pointer (some ⟨b_5, 0, none⟩)), (15, iv rv_9.2), (16, iv rv_10.1), (102, .bool (((rv_7.2.2 == 0) || (rv_7.2.2 == 4)) || (rv_7.2.2 == 62)))]) (ms := [(1, .cells b_1 [iv n.Exchanges, .slice p n.Lines.length c, iv n.Hops, .slice p_1 n.Loops.length c_1] 25), (2, .cells b_2 [iv b.Rule.Fast, iv b.Rule.Slow, iv b.Rule.Jerk, iv b.Rule.Drift.Low, iv b.Rule.Drift.High, iv b.Ticks, .slice p_2 b.Steer.length c_2, .slice p_3 b.Looks.length c_3] 33), (3, .cells b_3 [iv k.a0, iv k.a1, iv k.a2, iv k.a3] 34), (4, .cells b_4 [iv rv_8.1.Low, iv rv_8.1.High] 27), (5, .cells b_5 [iv rv_9.1.Low, iv rv_9.1.High] 27)]) (D' := D0) ?_ ?_
  ·rcases bcases ((rv_7.2.2 == 0) || (rv_7.2.2 == 4)) with hbv_9 | hbv_9
   ·skip
    refine guard_off hF rfl rfl hbv_9 rfl fun a hF => guard_off hF rfl rfl hbv_9 rfl fun a hF => step hF (Y.pick_t hF rfl hbv_9 rfl) rfl fun a hF => nT ⟨hF.weak ⟨rfl, rfl, rfl, rfl, rfl, rfl, rfl, rfl, rfl, rfl, rfl, (by rw [hbv_9]; rfl), trivial⟩, hS.weak (AL rfl)⟩
   refine guard_on hF rfl rfl hbv_9 (step hF (Y.move hF rfl) rfl fun a hF => guard_on hF rfl rfl hbv_9 (step hF (Y.eql hF rfl rfl) rfl fun a hF => step hF (Y.pick_f hF rfl hbv_9 rfl) rfl fun a hF => nT ⟨hF.weak ⟨rfl, rfl, rfl, rfl, rfl, rfl, rfl, rfl, rfl, rfl, rfl, (by rw [hbv_9]; rfl), trivial⟩, hS.weak (AL rfl)⟩))
  intro a w hF hS
  refine step hF (Y.move hF rfl) rfl fun a hF => join (N := 157) (rs := []) (w0 := w0) (D0 := D0) 7 (us := [(3, .pointer (some ⟨b_1, 0, none⟩)), (5, .pointer (some ⟨b_3, 0, none⟩)), (6, .bool false), (7, iv rv_5), (9, iv rv_7.1), (10, iv rv_7.2.1), (11, iv rv_7.2.2), (12, .pointer (some ⟨b_4, 0, none⟩)), (14, .pointer (some ⟨b_5, 0, none⟩)), (16, iv rv_10.1), (110, .bool ((((rv_7.2.2 == 0) || (rv_7.2.2 == 4)) || (rv_7.2.2 == 62)) && ((rv_9.2 == 0) || (rv_9.2 == 42))))]) (ms := [(1, .cells b_1 [iv n.Exchanges, .slice p n.Lines.length c, iv n.Hops, .slice p_1 n.Loops.length c_1] 25), (2, .cells b_2 [iv b.Rule.Fast, iv b.Rule.Slow, iv b.Rule.Jerk, iv b.Rule.Drift.Low, iv b.Rule.Drift.High, iv b.Ticks, .slice p_2 b.Steer.length c_2, .slice p_3 b.Looks.length c_3] 33), (3, .cells b_3 [iv k.a0, iv k.a1, iv k.a2, iv k.a3] 34), (4, .cells b_4 [iv rv_8.1.Low, iv rv_8.1.High] 27), (5, .cells b_5 [iv rv_9.1.Low, iv rv_9.1.High] 27)]) (D' := D0) ?_ ?_
  ·rcases bcases (((rv_7.2.2 == 0) || (rv_7.2.2 == 4)) || (rv_7.2.2 == 62)) with hbv_10 | hbv_10
   ·skip
    refine guard_on hF rfl rfl hbv_10 (step hF (Y.move hF rfl) rfl fun a hF => guard_on hF rfl rfl hbv_10 (step hF (Y.eql hF rfl rfl) rfl fun a hF => guard_on hF rfl rfl hbv_10 (step hF (Y.move hF rfl) rfl fun a hF => join (N := 157) (rs := []) (w0 := w0) (D0 := D0) 3 (us := [(3, .pointer (some ⟨b_1, 0, none⟩)), (5, .pointer (some ⟨b_3, 0, none⟩)), (6, .bool false), (7, iv rv_5), (9, iv rv_7.1), (10, iv rv_7.2.1), (11, iv rv_7.2.2), (12, .pointer (some ⟨b_4, 0, none⟩)), (14, .pointer (some ⟨b_5, 0, none⟩)), (16, iv rv_10.1), (103, .bool (((rv_7.2.2 == 0) || (rv_7.2.2 == 4)) || (rv_7.2.2 == 62))), (109, .bool ((rv_9.2 == 0) || (rv_9.2 == 42)))]) (ms := [(1, .cells b_1 [iv n.Exchanges, .slice p n.Lines.length c, iv n.Hops, .slice p_1 n.Loops.length c_1] 25), (2, .cells b_2 [iv b.Rule.Fast, iv b.Rule.Slow, iv b.Rule.Jerk, iv b.Rule.Drift.Low, iv b.Rule.Drift.High, iv b.Ticks, .slice p_2 b.Steer.length c_2, .slice p_3 b.Looks.length c_3] 33), (3, .cells b_3 [iv k.a0, iv k.a1, iv k.a2, iv k.a3] 34), (4, .cells b_4 [iv rv_8.1.Low, iv rv_8.1.High] 27), (5, .cells b_5 [iv rv_9.1.Low, iv rv_9.1.High] 27)]) (D' := D0) ?_ ?_)))
    ·rcases bcases (rv_9.2 == 0) with hbv_11 | hbv_11
     ·skip
      refine guard_off hF rfl rfl hbv_11 rfl fun a hF => guard_off hF rfl rfl hbv_11 rfl fun a hF => guard_on hF rfl rfl hbv_10 (step hF (Y.pick_t hF rfl hbv_11 rfl) rfl fun a hF => nT ⟨hF.weak ⟨rfl, rfl, rfl, rfl, rfl, rfl, rfl, rfl, rfl, rfl, rfl, (by rw [hbv_11]; rfl), trivial⟩, hS.weak (AL rfl)⟩)
     refine guard_on hF rfl rfl hbv_11 (step hF (Y.move hF rfl) rfl fun a hF => guard_on hF rfl rfl hbv_11 (step hF (Y.eql hF rfl rfl) rfl fun a hF => guard_on hF rfl rfl hbv_10 (step hF (Y.pick_f hF rfl hbv_11 rfl) rfl fun a hF => nT ⟨hF.weak ⟨rfl, rfl, rfl, rfl, rfl, rfl, rfl, rfl, rfl, rfl, rfl, (by rw [hbv_11]; rfl), trivial⟩, hS.weak (AL rfl)⟩)))
    intro a w hF hS
    refine step hF (Y.pick_t hF rfl hbv_10 rfl) rfl fun a hF => nT ⟨hF.weak ⟨rfl, rfl, rfl, rfl, rfl, rfl, rfl, rfl, rfl, rfl, (by rw [hbv_10]; rfl), trivial⟩, hS.weak (AL rfl)⟩
   refine guard_off hF rfl rfl hbv_10 rfl fun a hF => guard_off hF rfl rfl hbv_10 rfl fun a hF => guard_off hF rfl rfl hbv_10 rfl fun a hF => guard_offu hF rfl rfl rfl fun a hF => guard_offu hF rfl rfl rfl fun a hF => guard_off hF rfl rfl hbv_10 rfl fun a hF => step hF (Y.pick_f hF rfl hbv_10 rfl) rfl fun a hF => nT ⟨hF.weak ⟨rfl, rfl, rfl, rfl, rfl, rfl, rfl, rfl, rfl, rfl, (by rw [hbv_10]; rfl), trivial⟩, hS.weak (AL rfl)⟩
  intro a w hF hS
  refine step hF (Y.move hF rfl) rfl fun a hF => ?_
  obtain ⟨t_3, ht_3, h⟩ := bind_some h
  refine join (N := 157) (rs := []) (w0 := w0) (D0 := D0) 2 (us := [(3, .pointer (some ⟨b_1, 0, none⟩)), (5, .pointer (some ⟨b_3, 0, none⟩)), (6, .bool false), (7, iv rv_5), (9, iv rv_7.1), (10, iv rv_7.2.1), (11, iv rv_7.2.2), (12, .pointer (some ⟨b_4, 0, none⟩)), (14, .pointer (some ⟨b_5, 0, none⟩)), (16, iv rv_10.1), (113, .bool t_3)]) (ms := [(1, .cells b_1 [iv n.Exchanges, .slice p n.Lines.length c, iv n.Hops, .slice p_1 n.Loops.length c_1] 25), (2, .cells b_2 [iv b.Rule.Fast, iv b.Rule.Slow, iv b.Rule.Jerk, iv b.Rule.Drift.Low, iv b.Rule.Drift.High, iv b.Ticks, .slice p_2 b.Steer.length c_2, .slice p_3 b.Looks.length c_3] 33), (3, .cells b_3 [iv k.a0, iv k.a1, iv k.a2, iv k.a3] 34), (4, .cells b_4 [iv rv_8.1.Low, iv rv_8.1.High] 27), (5, .cells b_5 [iv rv_9.1.Low, iv rv_9.1.High] 27)]) (D' := D0) ?_ ?_
  ·rcases bcases ((((rv_7.2.2 == 0) || (rv_7.2.2 == 4)) || (rv_7.2.2 == 62)) && ((rv_9.2 == 0) || (rv_9.2 == 42))) with hbv_12 | hbv_12
   ·skip
    replace h := cond_t ht_3 hbv_12
    refine guard_on hF rfl rfl hbv_12 ?_
    obtain ⟨rv_11, hx_11, h⟩ := bind_some h
    refine O.callP (us := []) ca_7 hF hS (remontoirtop_rung06_ok hS.stab hG rv_11 hx_11) rfl rfl fun a w hF hS => step hF (Y.pick_t hF rfl hbv_12 rfl) rfl fun a hF => ?_
    obtain rfl := some_inj h
    exact nT ⟨hF.weak (AF rfl), hS.weak (AL rfl)⟩
   replace h := cond_f ht_3 hbv_12
   refine guard_off hF rfl rfl hbv_12 rfl fun a hF => step hF (Y.pick_f hF rfl hbv_12 rfl) rfl fun a hF => ?_
   obtain rfl := some_inj h
   exact nT ⟨hF.weak (AF rfl), hS.weak (AL rfl)⟩
  intro a w hF hS
  refine step hF (Y.assign hF rfl) rfl fun a hF => nT (ret_ (then_r ?_))
  obtain rfl := some_inj h
  exact leaveP Tryd.results3 hF hS (.cons (.tmp rfl) .nil) .nil rfl
 replace h := cond_f h hbv_7
 refine skip_ (then_n (seq (seq (region (step hF (Y.loadNL 4 sz_27 hF rfl hS rfl rfl rfl) rfl fun a hF => ?_)))))
 obtain ⟨rv_12, hx_12, h⟩ := bind_some h
 refine O.callP (us := [.agg #[iv rv_8.1.Low, iv rv_8.1.High], iv 0, iv 6000]) ca_13 hF hS (r0Valid_ok hS.stab rv_8.1 0 6000 rv_12 hx_12) rfl rfl fun a w hF hS => step hF (Y.not hF rfl) rfl fun a hF => step hF (Y.move hF rfl) rfl fun a hF => ?_
 obtain ⟨t_4, ht_4, h⟩ := bind_some h
 refine join (N := 157) (rs := []) (w0 := w0) (D0 := D0) 4 (us := [(3, .pointer (some ⟨b_1, 0, none⟩)), (5, .pointer (some ⟨b_3, 0, none⟩)), (6, .bool false), (7, iv rv_5), (9, iv rv_7.1), (10, iv rv_7.2.1), (11, iv rv_7.2.2), (12, .pointer (some ⟨b_4, 0, none⟩)), (14, .pointer (some ⟨b_5, 0, none⟩)), (16, iv rv_10.1), (121, .bool t_4)]) (ms := [(1, .cells b_1 [iv n.Exchanges, .slice p n.Lines.length c, iv n.Hops, .slice p_1 n.Loops.length c_1] 25), (2, .cells b_2 [iv b.Rule.Fast, iv b.Rule.Slow, iv b.Rule.Jerk, iv b.Rule.Drift.Low, iv b.Rule.Drift.High, iv b.Ticks, .slice p_2 b.Steer.length c_2, .slice p_3 b.Looks.length c_3] 33), (3, .cells b_3 [iv k.a0, iv k.a1, iv k.a2, iv k.a3] 34), (4, .cells b_4 [iv rv_8.1.Low, iv rv_8.1.High] 27), (5, .cells b_5 [iv rv_9.1.Low, iv rv_9.1.High] 27)]) (D' := D0) ?_ ?_
 ·rcases bcases (!rv_12) with hbv_13 | hbv_13
  ·skip
   replace h := cond_t ht_4 hbv_13
   refine guard_off hF rfl rfl hbv_13 rfl fun a hF => guard_off hF rfl rfl hbv_13 rfl fun a hF => guard_off hF rfl rfl hbv_13 rfl fun a hF => step hF (Y.pick_t hF rfl hbv_13 rfl) rfl fun a hF => ?_
   obtain rfl := some_inj h
   exact nT ⟨hF.weak (AF rfl), hS.weak (AL rfl)⟩
  replace h := cond_f ht_4 hbv_13
  refine guard_on hF rfl rfl hbv_13 (step hF (Y.loadNL 5 sz_27 hF rfl hS rfl rfl rfl) rfl fun a hF => guard_on hF rfl rfl hbv_13 ?_)
  obtain ⟨rv_13, hx_13, h⟩ := bind_some h
  refine O.callP (us := [.agg #[iv rv_9.1.Low, iv rv_9.1.High], iv (-20000), iv 20000]) ca_13 hF hS (r0Valid_ok hS.stab rv_9.1 (-20000) 20000 rv_13 hx_13) rfl rfl fun a w hF hS => guard_on hF rfl rfl hbv_13 (step hF (Y.not hF rfl) rfl fun a hF => step hF (Y.pick_f hF rfl hbv_13 rfl) rfl fun a hF => ?_)
  obtain rfl := some_inj h
  exact nT ⟨hF.weak (AF rfl), hS.weak (AL rfl)⟩
 intro a w hF hS
 refine nT (cond_b hF rfl (fun hbv_14 => ?_) (fun hbv_14 => ?_))
 ·replace h := cond_t h hbv_14
  refine seq (region (step hF (Y.assign hF rfl) rfl fun a hF => nT (ret_ (then_r ?_))))
  obtain rfl := some_inj h
  exact leaveP Tryd.results3 hF hS (.cons (.tmp rfl) .nil) .nil rfl
 replace h := cond_f h hbv_14
 refine skip_ (then_n (seq ?_))
 obtain ⟨rv_14, hx_14, h⟩ := bind_some h
 refine drawsV 7 (.flt 0 (.flt 1 (.flt 2 (.flt 4 (.flt 5 (.flt 6 (.alt 3 .done .stop))))))) mixed_ (by kernel_rfl) (fun w => St w0 D0 D0 [(1, .cells b_1 [iv n.Exchanges, .slice p n.Lines.length c, iv n.Hops, .slice p_1 n.Loops.length c_1] 25), (2, .cells b_2 [iv b.Rule.Fast, iv b.Rule.Slow, iv b.Rule.Jerk, iv b.Rule.Drift.Low, iv b.Rule.Drift.High, iv b.Ticks, .slice p_2 b.Steer.length c_2, .slice p_3 b.Looks.length c_3] 33), (3, .cells b_3 [iv k.a0, iv k.a1, iv k.a2, iv k.a3] 34), (4, .cells b_4 [iv rv_8.1.Low, iv rv_8.1.High] 27), (5, .cells b_5 [iv rv_9.1.Low, iv rv_9.1.High] 27)] w) (fun a w => Frm 157 [] [(3, .pointer (some ⟨b_1, 0, none⟩)), (6, .bool false), (7, iv rv_5), (9, iv rv_7.1), (10, iv rv_7.2.1), (11, iv rv_7.2.2), (12, .pointer (some ⟨b_4, 0, none⟩)), (16, iv rv_10.1), (125, iv rv_14), (126, .agg #[iv rv_9.1.Low, iv rv_9.1.High]), (128, iv k.a3)] a ∧ St w0 D0 D0 [(1, .cells b_1 [iv n.Exchanges, .slice p n.Lines.length c, iv n.Hops, .slice p_1 n.Loops.length c_1] 25), (2, .cells b_2 [iv b.Rule.Fast, iv b.Rule.Slow, iv b.Rule.Jerk, iv b.Rule.Drift.Low, iv b.Rule.Drift.High, iv b.Ticks, .slice p_2 b.Steer.length c_2, .slice p_3 b.Looks.length c_3] 33), (3, .cells b_3 [iv k.a0, iv k.a1, iv k.a2, iv k.a3] 34), (4, .cells b_4 [iv rv_8.1.Low, iv rv_8.1.High] 27), (5, .cells b_5 [iv rv_9.1.Low, iv rv_9.1.High] 27)] w) (hS.weak (ms := [(1, .cells b_1 [iv n.Exchanges, .slice p n.Lines.length c, iv n.Hops, .slice p_1 n.Loops.length c_1] 25), (2, .cells b_2 [iv b.Rule.Fast, iv b.Rule.Slow, iv b.Rule.Jerk, iv b.Rule.Drift.Low, iv b.Rule.Drift.High, iv b.Ticks, .slice p_2 b.Steer.length c_2, .slice p_3 b.Looks.length c_3] 33), (3, .cells b_3 [iv k.a0, iv k.a1, iv k.a2, iv k.a3] 34), (4, .cells b_4 [iv rv_8.1.Low, iv rv_8.1.High] 27), (5, .cells b_5 [iv rv_9.1.Low, iv rv_9.1.High] 27)]) (AL rfl)).drew (fun _ _ _ _ h => h) ?_ ?_
 ·replace hS := hS.drew
  have hle0 := hS.le
  refine stepV (i := 0) rfl hF (fun w hS => Y.loadNL 4 sz_27 hF rfl hS rfl rfl rfl) rfl fun a hF => stepV (i := 1) rfl hF (fun w hS => Y.indexArr u_34 sz_3 hF rfl rfl (by decide) (by decide)) rfl fun a hF => stepV (i := 2) rfl hF (fun w hS => Y.load1L 3 sz_3 hF rfl hS rfl rfl) rfl fun a hF => stepV (i := 4) rfl hF (fun w hS => Y.loadNL 5 sz_27 hF rfl hS rfl rfl rfl) rfl fun a hF => stepV (i := 5) rfl hF (fun w hS => Y.indexArr u_34 sz_3 hF rfl rfl (by decide) (by decide)) rfl fun a hF => stepV (i := 6) rfl hF (fun w hS => Y.load1L 3 sz_3 hF rfl hS rfl rfl) rfl fun a hF => oneV (i := 3) rfl ?_ trivial
  refine O.callP (us := [.agg #[iv rv_8.1.Low, iv rv_8.1.High], iv k.a2]) ca_14 hF hS (r0From_ok hS.stab rv_8.1 k.a2 rv_14 hx_14) rfl rfl fun a w hF hS => nT ⟨hS.weak (AL rfl), ?_⟩
  exact toTailV ⟨hF.weak (AF rfl), hS.weak (AL rfl)⟩
 rintro a w ⟨hF, hS⟩
 obtain ⟨rv_15, hx_15, h⟩ := bind_some h
 refine O.callP (us := [.agg #[iv rv_9.1.Low, iv rv_9.1.High], iv k.a3]) ca_14 hF hS (r0From_ok hS.stab rv_9.1 k.a3 rv_15 hx_15) rfl rfl fun a w hF hS => step hF (Y.assign hF rfl) rfl fun a hF => step hF (Y.assign hF rfl) rfl fun a hF => nT (seq (region (step hF (Y.loadNL 1 sz_25 hF rfl hS rfl rfl rfl) rfl fun a hF => step hF (Y.move hF rfl) rfl fun a hF => step hF (Y.move hF rfl) rfl fun a hF => ?_)))
 obtain ⟨rv_16, hx_16, h⟩ := bind_some h
 refine O.callP (us := [.agg #[iv n.Exchanges, .slice p n.Lines.length c, iv n.Hops, .slice p_1 n.Loops.length c_1], iv rv_5, iv rv_14]) ca_15 hF hS (line_Can_ok hS.stab n rv_5 rv_14 hs hs_1 hG rv_16 hx_16) rfl rfl fun a w hF hS => step hF (Y.move hF rfl) rfl fun a hF => step hF (Y.extract hF rfl rfl) rfl fun a hF => step hF (Y.extract hF rfl rfl) rfl fun a hF => step hF (Y.assign hF rfl) rfl fun a hF => step hF (Y.assign hF rfl) rfl fun a hF => nT (seq (seq (region (step hF (Y.move hF rfl) rfl fun a hF => step hF (Y.neq hF rfl rfl) rfl fun a hF => nT (cond_b hF rfl (fun hbv_15 => ?_) (fun hbv_15 => ?_))))))
 ·replace h := cond_t h hbv_15
  refine seq (region (step hF (Y.assign hF rfl) rfl fun a hF => nT (ret_ (then_r ?_))))
  obtain rfl := some_inj h
  exact leaveP Tryd.results3 hF hS (.cons (.tmp rfl) .nil) .nil rfl
 replace h := cond_f h hbv_15
 refine skip_ (then_n (seq_cut (fun a w => ∃ (delay : Int), Frm 157 [] [(6, .bool false), (9, iv rv_7.1), (10, iv rv_7.2.1), (16, iv rv_10.1), (18, iv delay), (19, iv rv_15)] a ∧ St w0 D0 D0 [(1, .cells b_1 [iv n.Exchanges, .slice p n.Lines.length c, iv n.Hops, .slice p_1 n.Loops.length c_1] 25), (2, .cells b_2 [iv b.Rule.Fast, iv b.Rule.Slow, iv b.Rule.Jerk, iv b.Rule.Drift.Low, iv b.Rule.Drift.High, iv b.Ticks, .slice p_2 b.Steer.length c_2, .slice p_3 b.Looks.length c_3] 33), (3, .cells b_3 [iv k.a0, iv k.a1, iv k.a2, iv k.a3] 34), (4, .cells b_4 [iv rv_8.1.Low, iv rv_8.1.High] 27), (5, .cells b_5 [iv rv_9.1.Low, iv rv_9.1.High] 27)] w ∧ remontoirtop_TopSent_k1 rv_7 rv_10 rv_15 delay = some out) ?_ ?_))
 ·skip
  refine seq (region (step hF (Y.move hF rfl) rfl fun a hF => step hF (Y.not hF rfl) rfl fun a hF => nT (cond_b hF rfl (fun hbv_17 => ?_) (fun hbv_17 => ?_))))
  ·replace h := cond_t h hbv_17
   refine region (step hF (Y.fieldAddr fo_27_0 hF rfl) rfl fun a hF => step hF (Y.load1L 4 sz_3 hF rfl hS rfl rfl) rfl fun a hF => step hF (Y.assign hF rfl) rfl fun a hF => nT (⟨rv_8.1.Low, hF.weak (AF rfl), hS.weak (AL rfl), h⟩))
  replace h := cond_f h hbv_17
  refine skip_ (then_n (⟨rv_14, hF.weak (AF rfl), hS.weak (AL rfl), h⟩))
 rintro a w ⟨delay, hF, hS, h⟩
 unfold remontoirtop_TopSent_k1 at h
 refine seq (region (step hF (Y.move hF rfl) rfl fun a hF => step hF (Y.move hF rfl) rfl fun a hF => step hF (Y.sub hF rfl rfl) rfl fun a hF => step hF (Y.move hF rfl) rfl fun a hF => step hF (Y.sub hF rfl rfl) rfl fun a hF => step hF (Y.assign hF rfl) rfl fun a hF => nT (seq (region (step hF (Y.move hF rfl) rfl fun a hF => ?_)))))
 obtain ⟨rv_17, hx_17, h⟩ := bind_some h
 refine O.callP (us := [iv (wr ((wr (delay - rv_7.1)) - rv_15))]) ca_16 hF hS (r0Size_ok hS.stab (wr ((wr (delay - rv_7.1)) - rv_15)) rv_17 hx_17) rfl rfl fun a w hF hS => step hF (Y.move hF rfl) rfl fun a hF => step hF (Y.move hF rfl) rfl fun a hF => step hF (Y.add hF rfl rfl) rfl fun a hF => step hF (Y.leq hF rfl rfl) rfl fun a hF => step hF (Y.move hF rfl) rfl fun a hF => ?_
 obtain ⟨t_5, ht_5, h⟩ := bind_some h
 refine join (N := 157) (rs := []) (w0 := w0) (D0 := D0) 2 (us := [(6, .bool false), (156, .bool t_5)]) (ms := [(1, .cells b_1 [iv n.Exchanges, .slice p n.Lines.length c, iv n.Hops, .slice p_1 n.Loops.length c_1] 25), (2, .cells b_2 [iv b.Rule.Fast, iv b.Rule.Slow, iv b.Rule.Jerk, iv b.Rule.Drift.Low, iv b.Rule.Drift.High, iv b.Ticks, .slice p_2 b.Steer.length c_2, .slice p_3 b.Looks.length c_3] 33), (3, .cells b_3 [iv k.a0, iv k.a1, iv k.a2, iv k.a3] 34), (4, .cells b_4 [iv rv_8.1.Low, iv rv_8.1.High] 27), (5, .cells b_5 [iv rv_9.1.Low, iv rv_9.1.High] 27)]) (D' := D0) ?_ ?_
 ·rcases bcases (decide (rv_17 ≤ (wr (rv_7.2.1 + rv_10.1)))) with hbv_16 | hbv_16
  ·skip
   replace h := cond_t ht_5 hbv_16
   refine guard_on hF rfl rfl hbv_16 ?_
   obtain ⟨rv_18, hx_18, h⟩ := bind_some h
   refine O.callP (us := []) ca_7 hF hS (remontoirtop_rung06_ok hS.stab hG rv_18 hx_18) rfl rfl fun a w hF hS => step hF (Y.pick_t hF rfl hbv_16 rfl) rfl fun a hF => ?_
   obtain rfl := some_inj h
   exact nT ⟨hF.weak ⟨rfl, rfl, trivial⟩, hS.weak (AL rfl)⟩
  replace h := cond_f ht_5 hbv_16
  refine guard_off hF rfl rfl hbv_16 rfl fun a hF => step hF (Y.pick_f hF rfl hbv_16 rfl) rfl fun a hF => ?_
  obtain rfl := some_inj h
  exact nT ⟨hF.weak ⟨rfl, rfl, trivial⟩, hS.weak (AL rfl)⟩
 intro a w hF hS
 refine step hF (Y.assign hF rfl) rfl fun a hF => nT (ret_ ?_)
 obtain rfl := some_inj h
 exact leaveP Tryd.results3 hF hS (.cons (.tmp rfl) .nil) .nil rfl
end Go.Proofs.YtgdfljiliflhfaaDoor.Rt
