/- Walks of the functions of this seat: what each Go function comes to, as a Lean function, and the proof. Part WB3. Under no conditions. -/
import Derived.Test.YtpniidbbbhbglaaDoorWB2
set_option linter.unusedVariables false
set_option linter.unusedSimpArgs false
set_option maxRecDepth 100000
set_option maxHeartbeats 4000000
namespace Go.Proofs.YtpniidbbbhbglaaDoor.Rt
open Go Go.RowKit
noncomputable def remontoirlaw02_works : Option Bool :=
  (remontoirlaw02_cellar ([] : List BeatPair)).bind fun rv =>
  (beat_Offset rv 0 1).bind fun rv_1 =>
  (remontoirlaw02_cellar ([] : List BeatPair)).bind fun rv_2 =>
  (beat_Apart rv_2 0 1 3).bind fun rv_3 =>
  (remontoirlaw02_cellar ([] : List BeatPair)).bind fun rv_4 =>
  (beat_Drift rv_4 2 1 2).bind fun rv_5 =>
  (remontoirlaw02_cellar ([] : List BeatPair)).bind fun rv_6 =>
  (beat_Case rv_6 2 1 false).bind fun rv_7 =>
  (remontoirlaw02_torn).bind fun rv_8 =>
  (remontoirlaw02_cellar rv_8).bind fun rv_9 =>
  (beat_Wrong rv_9).bind fun rv_10 =>
  (remontoirlaw02_cellar ([] : List BeatPair)).bind fun rv_11 =>
  (beat_Best rv_11 3).bind fun rv_12 =>
  (cond (rv_1.2 != 0) (some true) (some (rv_3.2 != 0))).bind fun t =>
  (cond t (some true) (some (rv_5.2 != 0))).bind fun t_1 =>
  (cond t_1 (some true) (some (rv_7.2 != 0))).bind fun t_2 =>
  (cond t_2 (some true) (some (rv_10.2 != 0))).bind fun t_3 =>
  (cond t_3 (some true) (some (rv_12.2.2 != 0))).bind fun t_4 =>
  (cond t_4 (some true) ((remontoirref00_To 98 105).bind fun rv_13 =>
  some (!([rv_1.1.Low, rv_1.1.High] == [rv_13.Low, rv_13.High])))).bind fun t_5 =>
  (cond t_5 (some true) ((remontoirref00_To 34 50).bind fun rv_14 =>
  some (!([rv_3.1.Low, rv_3.1.High] == [rv_14.Low, rv_14.High])))).bind fun t_6 =>
  (cond t_6 (some true) ((remontoirref00_To (-60) 60).bind fun rv_15 =>
  some (!([rv_5.1.Low, rv_5.1.High] == [rv_15.Low, rv_15.High])))).bind fun t_7 =>
  (cond t_7 (some true) ((remontoirref00_Alike rv_10.1 ([1])).bind fun rv_16 =>
  some (!rv_16))).bind fun t_8 =>
  cond ((t_8 || (rv_12.1 != 1)) || (rv_12.2.1 != 1))
  (some false)
  ((remontoirlaw02_cellar ([] : List BeatPair)).bind fun rv_17 =>
  (beat_IsTruth rv_17 rv_7.1).bind fun rv_18 =>
  (cond ((rv_18.2 == 0) && rv_18.1) ((idx rv_7.1 2).bind fun e =>
  (idx e 1).bind fun e_1 =>
  some (e_1 == (-5))) (some false)).bind fun t_9 =>
  some t_9)
theorem remontoirlaw02_works_ok {w0 : World} {D0 : Stab} (hD : D0.on w0) (hG : Glob D0) (out : Bool) (h : remontoirlaw02_works = some out) : Calls Tryd.prog 21 [].toArray w0 (RetP D0 w0 (.bool out)) := by
 refine enter _ 117 Tryd.func21 rfl Tryd.ntmps21 rfl fun a hF => ?_
 replace hF : Frm 117 [] [] a := hF
 have hS := St.start hD
 unfold remontoirlaw02_works at h
 refine seq ?_
 refine region ?_
 refine step hF (Y.assign hF rfl) rfl fun a hF => ?_
 refine nil (then_n ?_)
 refine seq ?_
 refine region ?_
 obtain ⟨rv, hx, h⟩ := bind_some h
 refine O.callS (us := [.slice none 0 0]) ca_42 hF hS (remontoirlaw02_cellar_ok hS.stab ([] : List BeatPair) SRc.nil rv hx) rfl rfl fun v Dv a w hR hlev hF hS => ?_
 replace hG := hG.mono hlev
 obtain ⟨p, c, p_1, c_1, p_2, c_2, rfl, hs, hs_1, hs_2⟩ := hR
 obtain ⟨rv_1, hx_1, h⟩ := bind_some h
 refine O.callP (us := [.agg #[.int .i64 rv.Hours, .slice p rv.Rates.length c, .slice p_1 rv.Opens.length c_1, .slice p_2 rv.Pairs.length c_2], .int .i64 0, .int .i64 1]) ca_19 hF hS (beat_Offset_ok hS.stab rv 0 1 hs hs_1 hs_2 hG rv_1 hx_1) rfl rfl fun a w hF hS => ?_
 refine step hF (Y.move hF rfl) rfl fun a hF => ?_
 refine step hF (Y.extract hF rfl rfl) rfl fun a hF => ?_
 refine step hF (Y.extract hF rfl rfl) rfl fun a hF => ?_
 refine O.alloc 1 zc_34 hF hS rfl fun b a w hF hS => ?_
 refine O.store (us := [.int .i64 rv_1.1.Low, .int .i64 rv_1.1.High]) 1 sz_34 hF rfl rfl rfl rfl hS rfl rfl fun a w hF hS => ?_
 refine step hF (Y.assign hF rfl) rfl fun a hF => ?_
 refine nil (then_n ?_)
 refine seq ?_
 refine region ?_
 obtain ⟨rv_2, hx_2, h⟩ := bind_some h
 refine O.callS (us := [.slice none 0 0]) ca_42 hF hS (remontoirlaw02_cellar_ok hS.stab ([] : List BeatPair) SRc.nil rv_2 hx_2) rfl rfl fun v_1 Dv_1 a w hR_1 hlev_1 hF hS => ?_
 replace hG := hG.mono hlev_1
 replace hs := hs.mono hlev_1
 replace hs_1 := hs_1.mono hlev_1
 replace hs_2 := hs_2.mono hlev_1
 obtain ⟨p_3, c_3, p_4, c_4, p_5, c_5, rfl, hs_3, hs_4, hs_5⟩ := hR_1
 obtain ⟨rv_3, hx_3, h⟩ := bind_some h
 refine O.callP (us := [.agg #[.int .i64 rv_2.Hours, .slice p_3 rv_2.Rates.length c_3, .slice p_4 rv_2.Opens.length c_4, .slice p_5 rv_2.Pairs.length c_5], .int .i64 0, .int .i64 1, .int .i64 3]) ca_22 hF hS (beat_Apart_ok hS.stab rv_2 0 1 3 hs_3 hs_4 hs_5 hG rv_3 hx_3) rfl rfl fun a w hF hS => ?_
 refine step hF (Y.move hF rfl) rfl fun a hF => ?_
 refine step hF (Y.extract hF rfl rfl) rfl fun a hF => ?_
 refine step hF (Y.extract hF rfl rfl) rfl fun a hF => ?_
 refine O.alloc 2 zc_34 hF hS rfl fun b_1 a w hF hS => ?_
 refine O.store (us := [.int .i64 rv_3.1.Low, .int .i64 rv_3.1.High]) 2 sz_34 hF rfl rfl rfl rfl hS rfl rfl fun a w hF hS => ?_
 refine step hF (Y.assign hF rfl) rfl fun a hF => ?_
 refine nil (then_n ?_)
 refine seq ?_
 refine region ?_
 obtain ⟨rv_4, hx_4, h⟩ := bind_some h
 refine O.callS (us := [.slice none 0 0]) ca_42 hF hS (remontoirlaw02_cellar_ok hS.stab ([] : List BeatPair) SRc.nil rv_4 hx_4) rfl rfl fun v_2 Dv_2 a w hR_2 hlev_2 hF hS => ?_
 replace hG := hG.mono hlev_2
 replace hs := hs.mono hlev_2
 replace hs_1 := hs_1.mono hlev_2
 replace hs_2 := hs_2.mono hlev_2
 replace hs_3 := hs_3.mono hlev_2
 replace hs_4 := hs_4.mono hlev_2
 replace hs_5 := hs_5.mono hlev_2
 obtain ⟨p_6, c_6, p_7, c_7, p_8, c_8, rfl, hs_6, hs_7, hs_8⟩ := hR_2
 obtain ⟨rv_5, hx_5, h⟩ := bind_some h
 refine O.callP (us := [.agg #[.int .i64 rv_4.Hours, .slice p_6 rv_4.Rates.length c_6, .slice p_7 rv_4.Opens.length c_7, .slice p_8 rv_4.Pairs.length c_8], .int .i64 2, .int .i64 1, .int .i64 2]) ca_24 hF hS (beat_Drift_ok hS.stab rv_4 2 1 2 hs_6 hs_7 hs_8 hG rv_5 hx_5) rfl rfl fun a w hF hS => ?_
 refine step hF (Y.move hF rfl) rfl fun a hF => ?_
 refine step hF (Y.extract hF rfl rfl) rfl fun a hF => ?_
 refine step hF (Y.extract hF rfl rfl) rfl fun a hF => ?_
 refine O.alloc 3 zc_34 hF hS rfl fun b_2 a w hF hS => ?_
 refine O.store (us := [.int .i64 rv_5.1.Low, .int .i64 rv_5.1.High]) 3 sz_34 hF rfl rfl rfl rfl hS rfl rfl fun a w hF hS => ?_
 refine step hF (Y.assign hF rfl) rfl fun a hF => ?_
 refine nil (then_n ?_)
 refine seq ?_
 refine region ?_
 obtain ⟨rv_6, hx_6, h⟩ := bind_some h
 refine O.callS (us := [.slice none 0 0]) ca_42 hF hS (remontoirlaw02_cellar_ok hS.stab ([] : List BeatPair) SRc.nil rv_6 hx_6) rfl rfl fun v_3 Dv_3 a w hR_3 hlev_3 hF hS => ?_
 replace hG := hG.mono hlev_3
 replace hs := hs.mono hlev_3
 replace hs_1 := hs_1.mono hlev_3
 replace hs_2 := hs_2.mono hlev_3
 replace hs_3 := hs_3.mono hlev_3
 replace hs_4 := hs_4.mono hlev_3
 replace hs_5 := hs_5.mono hlev_3
 replace hs_6 := hs_6.mono hlev_3
 replace hs_7 := hs_7.mono hlev_3
 replace hs_8 := hs_8.mono hlev_3
 obtain ⟨p_9, c_9, p_10, c_10, p_11, c_11, rfl, hs_9, hs_10, hs_11⟩ := hR_3
 obtain ⟨rv_7, hx_7, h⟩ := bind_some h
 refine O.callS (us := [.agg #[.int .i64 rv_6.Hours, .slice p_9 rv_6.Rates.length c_9, .slice p_10 rv_6.Opens.length c_10, .slice p_11 rv_6.Pairs.length c_11], .int .i64 2, .int .i64 1, .bool false]) ca_26 hF hS (beat_Case_ok hS.stab rv_6 2 1 false hs_9 hs_10 hs_11 hG rv_7 hx_7) rfl rfl fun v_4 Dv_4 a w hR_4 hlev_4 hF hS => ?_
 replace hG := hG.mono hlev_4
 replace hs := hs.mono hlev_4
 replace hs_1 := hs_1.mono hlev_4
 replace hs_2 := hs_2.mono hlev_4
 replace hs_3 := hs_3.mono hlev_4
 replace hs_4 := hs_4.mono hlev_4
 replace hs_5 := hs_5.mono hlev_4
 replace hs_6 := hs_6.mono hlev_4
 replace hs_7 := hs_7.mono hlev_4
 replace hs_8 := hs_8.mono hlev_4
 replace hs_9 := hs_9.mono hlev_4
 replace hs_10 := hs_10.mono hlev_4
 replace hs_11 := hs_11.mono hlev_4
 obtain ⟨p_12, c_12, rfl, hs_12⟩ := hR_4
 refine step hF (Y.move hF rfl) rfl fun a hF => ?_
 refine step hF (Y.extract hF rfl rfl) rfl fun a hF => ?_
 refine step hF (Y.extract hF rfl rfl) rfl fun a hF => ?_
 refine step hF (Y.assign hF rfl) rfl fun a hF => ?_
 refine step hF (Y.assign hF rfl) rfl fun a hF => ?_
 refine nil (then_n ?_)
 refine seq ?_
 refine region ?_
 obtain ⟨rv_8, hx_8, h⟩ := bind_some h
 refine O.callS (us := []) ca_43 hF hS (remontoirlaw02_torn_ok hS.stab rv_8 hx_8) rfl rfl fun v_5 Dv_5 a w hR_5 hlev_5 hF hS => ?_
 replace hG := hG.mono hlev_5
 replace hs := hs.mono hlev_5
 replace hs_1 := hs_1.mono hlev_5
 replace hs_2 := hs_2.mono hlev_5
 replace hs_3 := hs_3.mono hlev_5
 replace hs_4 := hs_4.mono hlev_5
 replace hs_5 := hs_5.mono hlev_5
 replace hs_6 := hs_6.mono hlev_5
 replace hs_7 := hs_7.mono hlev_5
 replace hs_8 := hs_8.mono hlev_5
 replace hs_9 := hs_9.mono hlev_5
 replace hs_10 := hs_10.mono hlev_5
 replace hs_11 := hs_11.mono hlev_5
 replace hs_12 := hs_12.mono hlev_5
 obtain ⟨p_13, c_13, rfl, hs_13⟩ := hR_5
 obtain ⟨rv_9, hx_9, h⟩ := bind_some h
 refine O.callS (us := [.slice p_13 rv_8.length c_13]) ca_42 hF hS (remontoirlaw02_cellar_ok hS.stab rv_8 hs_13 rv_9 hx_9) rfl rfl fun v_6 Dv_6 a w hR_6 hlev_6 hF hS => ?_
 replace hG := hG.mono hlev_6
 replace hs := hs.mono hlev_6
 replace hs_1 := hs_1.mono hlev_6
 replace hs_2 := hs_2.mono hlev_6
 replace hs_3 := hs_3.mono hlev_6
 replace hs_4 := hs_4.mono hlev_6
 replace hs_5 := hs_5.mono hlev_6
 replace hs_6 := hs_6.mono hlev_6
 replace hs_7 := hs_7.mono hlev_6
 replace hs_8 := hs_8.mono hlev_6
 replace hs_9 := hs_9.mono hlev_6
 replace hs_10 := hs_10.mono hlev_6
 replace hs_11 := hs_11.mono hlev_6
 replace hs_12 := hs_12.mono hlev_6
 replace hs_13 := hs_13.mono hlev_6
 obtain ⟨p_14, c_14, p_15, c_15, p_16, c_16, rfl, hs_14, hs_15, hs_16⟩ := hR_6
 obtain ⟨rv_10, hx_10, h⟩ := bind_some h
 refine O.callS (us := [.agg #[.int .i64 rv_9.Hours, .slice p_14 rv_9.Rates.length c_14, .slice p_15 rv_9.Opens.length c_15, .slice p_16 rv_9.Pairs.length c_16]]) ca_27 hF hS (beat_Wrong_ok hS.stab rv_9 hs_14 hs_15 hs_16 hG rv_10 hx_10) rfl rfl fun v_7 Dv_7 a w hR_7 hlev_7 hF hS => ?_
 replace hG := hG.mono hlev_7
 replace hs := hs.mono hlev_7
 replace hs_1 := hs_1.mono hlev_7
 replace hs_2 := hs_2.mono hlev_7
 replace hs_3 := hs_3.mono hlev_7
 replace hs_4 := hs_4.mono hlev_7
 replace hs_5 := hs_5.mono hlev_7
 replace hs_6 := hs_6.mono hlev_7
 replace hs_7 := hs_7.mono hlev_7
 replace hs_8 := hs_8.mono hlev_7
 replace hs_9 := hs_9.mono hlev_7
 replace hs_10 := hs_10.mono hlev_7
 replace hs_11 := hs_11.mono hlev_7
 replace hs_12 := hs_12.mono hlev_7
 replace hs_13 := hs_13.mono hlev_7
 replace hs_14 := hs_14.mono hlev_7
 replace hs_15 := hs_15.mono hlev_7
 replace hs_16 := hs_16.mono hlev_7
 obtain ⟨p_17, c_17, rfl, hs_17⟩ := hR_7
 refine step hF (Y.move hF rfl) rfl fun a hF => ?_
 refine step hF (Y.extract hF rfl rfl) rfl fun a hF => ?_
 refine step hF (Y.extract hF rfl rfl) rfl fun a hF => ?_
 refine step hF (Y.assign hF rfl) rfl fun a hF => ?_
 refine step hF (Y.assign hF rfl) rfl fun a hF => ?_
 refine nil (then_n ?_)
 refine seq ?_
 refine region ?_
 obtain ⟨rv_11, hx_11, h⟩ := bind_some h
 refine O.callS (us := [.slice none 0 0]) ca_42 hF hS (remontoirlaw02_cellar_ok hS.stab ([] : List BeatPair) SRc.nil rv_11 hx_11) rfl rfl fun v_8 Dv_8 a w hR_8 hlev_8 hF hS => ?_
 replace hG := hG.mono hlev_8
 replace hs := hs.mono hlev_8
 replace hs_1 := hs_1.mono hlev_8
 replace hs_2 := hs_2.mono hlev_8
 replace hs_3 := hs_3.mono hlev_8
 replace hs_4 := hs_4.mono hlev_8
 replace hs_5 := hs_5.mono hlev_8
 replace hs_6 := hs_6.mono hlev_8
 replace hs_7 := hs_7.mono hlev_8
 replace hs_8 := hs_8.mono hlev_8
 replace hs_9 := hs_9.mono hlev_8
 replace hs_10 := hs_10.mono hlev_8
 replace hs_11 := hs_11.mono hlev_8
 replace hs_12 := hs_12.mono hlev_8
 replace hs_13 := hs_13.mono hlev_8
 replace hs_14 := hs_14.mono hlev_8
 replace hs_15 := hs_15.mono hlev_8
 replace hs_16 := hs_16.mono hlev_8
 replace hs_17 := hs_17.mono hlev_8
 obtain ⟨p_18, c_18, p_19, c_19, p_20, c_20, rfl, hs_18, hs_19, hs_20⟩ := hR_8
 obtain ⟨rv_12, hx_12, h⟩ := bind_some h
 refine O.callP (us := [.agg #[.int .i64 rv_11.Hours, .slice p_18 rv_11.Rates.length c_18, .slice p_19 rv_11.Opens.length c_19, .slice p_20 rv_11.Pairs.length c_20], .int .i64 3]) ca_30 hF hS (beat_Best_ok hS.stab rv_11 3 hs_18 hs_19 hs_20 hG rv_12 hx_12) rfl rfl fun a w hF hS => ?_
 refine step hF (Y.move hF rfl) rfl fun a hF => ?_
 refine step hF (Y.extract hF rfl rfl) rfl fun a hF => ?_
 refine step hF (Y.extract hF rfl rfl) rfl fun a hF => ?_
 refine step hF (Y.extract hF rfl rfl) rfl fun a hF => ?_
 refine step hF (Y.assign hF rfl) rfl fun a hF => ?_
 refine step hF (Y.assign hF rfl) rfl fun a hF => ?_
 refine step hF (Y.assign hF rfl) rfl fun a hF => ?_
 refine nil (then_n ?_)
 refine seq ?_
 refine seq ?_
 obtain ⟨t, ht, h⟩ := bind_some h
 obtain ⟨t_1, ht_1, h⟩ := bind_some h
 obtain ⟨t_2, ht_2, h⟩ := bind_some h
 obtain ⟨t_3, ht_3, h⟩ := bind_some h
 obtain ⟨t_4, ht_4, h⟩ := bind_some h
 obtain ⟨t_5, ht_5, h⟩ := bind_some h
 obtain ⟨t_6, ht_6, h⟩ := bind_some h
 obtain ⟨t_7, ht_7, h⟩ := bind_some h
 obtain ⟨t_8, ht_8, h⟩ := bind_some h
 refine drawsV 43 (.flt 0 (.flt 1 (.flt 2 (.flt 3 (.flt 4 (.flt 5 (.flt 6 (.flt 7 (.flt 8 (.flt 9 (.flt 10 (.flt 11 (.flt 12 (.flt 13 (.flt 14 (.flt 15 (.flt 16 (.flt 17 (.flt 18 (.flt 19 (.flt 20 (.flt 21 (.flt 22 (.flt 23 (.alt 24 (.flt 25 (.flt 26 (.flt 27 (.flt 28 (.alt 29 (.flt 30 (.flt 31 (.flt 32 (.flt 33 (.alt 34 (.flt 35 (.flt 36 (.flt 37 (.flt 38 (.alt 39 (.alt 40 (.flt 41 (.flt 42 .done)) .stop) .stop))))) .stop))))) .stop))))) .stop))))))))))))))))))))))))) mixed_ (by kernel_rfl) (fun w => St w0 D0 Dv_8 [(1, .cells b [.int .i64 rv_1.1.Low, .int .i64 rv_1.1.High] 34), (2, .cells b_1 [.int .i64 rv_3.1.Low, .int .i64 rv_3.1.High] 34), (3, .cells b_2 [.int .i64 rv_5.1.Low, .int .i64 rv_5.1.High] 34)] w) (fun a w => ∃ (Dv_11 : Stab), Dv_8.le Dv_11 ∧ Frm 117 [] [(0, .bool false), (2, .int .i64 rv_1.2), (7, .slice p_12 rv_7.1.length c_12), (11, .int .i64 rv_12.1), (12, .int .i64 rv_12.2.1), (89, .bool t_8)] a ∧ St w0 D0 Dv_11 [(1, .cells b [.int .i64 rv_1.1.Low, .int .i64 rv_1.1.High] 34), (2, .cells b_1 [.int .i64 rv_3.1.Low, .int .i64 rv_3.1.High] 34), (3, .cells b_2 [.int .i64 rv_5.1.Low, .int .i64 rv_5.1.High] 34)] w) (hS.weak (ms := [(1, .cells b [.int .i64 rv_1.1.Low, .int .i64 rv_1.1.High] 34), (2, .cells b_1 [.int .i64 rv_3.1.Low, .int .i64 rv_3.1.High] 34), (3, .cells b_2 [.int .i64 rv_5.1.Low, .int .i64 rv_5.1.High] 34)]) ⟨rfl, rfl, rfl, trivial⟩).drew (fun _ _ _ _ h => h) ?_ ?_
 ·replace hS := hS.drew
  have hle0 := hS.le
  rcases bcases (rv_1.2 != 0) with hbv | hbv
  ·skip
   replace ht := cond_t ht hbv
   obtain rfl := some_inj ht
   replace ht_1 := cond_t ht_1 rfl
   obtain rfl := some_inj ht_1
   replace ht_2 := cond_t ht_2 rfl
   obtain rfl := some_inj ht_2
   replace ht_3 := cond_t ht_3 rfl
   obtain rfl := some_inj ht_3
   replace ht_4 := cond_t ht_4 rfl
   obtain rfl := some_inj ht_4
   replace ht_5 := cond_t ht_5 rfl
   obtain rfl := some_inj ht_5
   replace ht_6 := cond_t ht_6 rfl
   obtain rfl := some_inj ht_6
   replace ht_7 := cond_t ht_7 rfl
   obtain rfl := some_inj ht_7
   replace ht_8 := cond_t ht_8 rfl
   obtain rfl := some_inj ht_8
   refine stepV (i := 0) rfl hF (fun w hS => Y.move hF rfl) rfl fun a hF => ?_
   refine stepV (i := 1) rfl hF (fun w hS => Y.neq hF rfl rfl) rfl fun a hF => ?_
   refine stepV (i := 2) rfl hF (fun w hS => Y.move hF rfl) rfl fun a hF => ?_
   refine stepV_off (i := 3) rfl hF rfl rfl hbv rfl fun a hF => ?_
   refine stepV_off (i := 4) rfl hF rfl rfl hbv rfl fun a hF => ?_
   refine stepV (i := 5) rfl hF (fun w hS => Y.pick_t hF rfl hbv rfl) rfl fun a hF => ?_
   refine stepV (i := 6) rfl hF (fun w hS => Y.move hF rfl) rfl fun a hF => ?_
   refine stepV_off (i := 7) rfl hF rfl rfl rfl rfl fun a hF => ?_
   refine stepV_off (i := 8) rfl hF rfl rfl rfl rfl fun a hF => ?_
   refine stepV (i := 9) rfl hF (fun w hS => Y.pick_t hF rfl rfl rfl) rfl fun a hF => ?_
   refine stepV (i := 10) rfl hF (fun w hS => Y.move hF rfl) rfl fun a hF => ?_
   refine stepV_off (i := 11) rfl hF rfl rfl rfl rfl fun a hF => ?_
   refine stepV_off (i := 12) rfl hF rfl rfl rfl rfl fun a hF => ?_
   refine stepV (i := 13) rfl hF (fun w hS => Y.pick_t hF rfl rfl rfl) rfl fun a hF => ?_
   refine stepV (i := 14) rfl hF (fun w hS => Y.move hF rfl) rfl fun a hF => ?_
   refine stepV_off (i := 15) rfl hF rfl rfl rfl rfl fun a hF => ?_
   refine stepV_off (i := 16) rfl hF rfl rfl rfl rfl fun a hF => ?_
   refine stepV (i := 17) rfl hF (fun w hS => Y.pick_t hF rfl rfl rfl) rfl fun a hF => ?_
   refine stepV (i := 18) rfl hF (fun w hS => Y.move hF rfl) rfl fun a hF => ?_
   refine stepV_off (i := 19) rfl hF rfl rfl rfl rfl fun a hF => ?_
   refine stepV_off (i := 20) rfl hF rfl rfl rfl rfl fun a hF => ?_
   refine stepV (i := 21) rfl hF (fun w hS => Y.pick_t hF rfl rfl rfl) rfl fun a hF => ?_
   refine stepV (i := 22) rfl hF (fun w hS => Y.move hF rfl) rfl fun a hF => ?_
   refine stepV_off (i := 23) rfl hF rfl rfl rfl rfl fun a hF => ?_
   refine oneV (i := 24) rfl ?_ trivial
   refine guard_off hF rfl rfl rfl rfl fun a hF => nil (then_n ⟨hS.weak (ms := [(1, .cells b [.int .i64 rv_1.1.Low, .int .i64 rv_1.1.High] 34), (2, .cells b_1 [.int .i64 rv_3.1.Low, .int .i64 rv_3.1.High] 34), (3, .cells b_2 [.int .i64 rv_5.1.Low, .int .i64 rv_5.1.High] 34)]) ⟨rfl, rfl, rfl, trivial⟩, ?_⟩)
   refine stepV_off (i := 25) rfl hF rfl rfl rfl rfl fun a hF => ?_
   refine stepV (i := 26) rfl hF (fun w hS => Y.pick_t hF rfl rfl rfl) rfl fun a hF => ?_
   refine stepV (i := 27) rfl hF (fun w hS => Y.move hF rfl) rfl fun a hF => ?_
   refine stepV_off (i := 28) rfl hF rfl rfl rfl rfl fun a hF => ?_
   refine oneV (i := 29) rfl ?_ trivial
   refine guard_off hF rfl rfl rfl rfl fun a hF => nil (then_n ⟨hS.weak (ms := [(1, .cells b [.int .i64 rv_1.1.Low, .int .i64 rv_1.1.High] 34), (2, .cells b_1 [.int .i64 rv_3.1.Low, .int .i64 rv_3.1.High] 34), (3, .cells b_2 [.int .i64 rv_5.1.Low, .int .i64 rv_5.1.High] 34)]) ⟨rfl, rfl, rfl, trivial⟩, ?_⟩)
   refine stepV_off (i := 30) rfl hF rfl rfl rfl rfl fun a hF => ?_
   refine stepV (i := 31) rfl hF (fun w hS => Y.pick_t hF rfl rfl rfl) rfl fun a hF => ?_
   refine stepV (i := 32) rfl hF (fun w hS => Y.move hF rfl) rfl fun a hF => ?_
   refine stepV_off (i := 33) rfl hF rfl rfl rfl rfl fun a hF => ?_
   refine oneV (i := 34) rfl ?_ trivial
   refine guard_off hF rfl rfl rfl rfl fun a hF => nil (then_n ⟨hS.weak (ms := [(1, .cells b [.int .i64 rv_1.1.Low, .int .i64 rv_1.1.High] 34), (2, .cells b_1 [.int .i64 rv_3.1.Low, .int .i64 rv_3.1.High] 34), (3, .cells b_2 [.int .i64 rv_5.1.Low, .int .i64 rv_5.1.High] 34)]) ⟨rfl, rfl, rfl, trivial⟩, ?_⟩)
   refine stepV_off (i := 35) rfl hF rfl rfl rfl rfl fun a hF => ?_
   refine stepV (i := 36) rfl hF (fun w hS => Y.pick_t hF rfl rfl rfl) rfl fun a hF => ?_
   refine stepV (i := 37) rfl hF (fun w hS => Y.move hF rfl) rfl fun a hF => ?_
   refine stepV_off (i := 38) rfl hF rfl rfl rfl rfl fun a hF => ?_
   refine oneV (i := 39) rfl ?_ trivial
   refine guard_off hF rfl rfl rfl rfl fun a hF => nil (then_n ⟨hS.weak (ms := [(1, .cells b [.int .i64 rv_1.1.Low, .int .i64 rv_1.1.High] 34), (2, .cells b_1 [.int .i64 rv_3.1.Low, .int .i64 rv_3.1.High] 34), (3, .cells b_2 [.int .i64 rv_5.1.Low, .int .i64 rv_5.1.High] 34)]) ⟨rfl, rfl, rfl, trivial⟩, ?_⟩)
   refine oneV (i := 40) rfl ?_ trivial
   refine guard_off hF rfl rfl rfl rfl fun a hF => nil (then_n ⟨hS.weak (ms := [(1, .cells b [.int .i64 rv_1.1.Low, .int .i64 rv_1.1.High] 34), (2, .cells b_1 [.int .i64 rv_3.1.Low, .int .i64 rv_3.1.High] 34), (3, .cells b_2 [.int .i64 rv_5.1.Low, .int .i64 rv_5.1.High] 34)]) ⟨rfl, rfl, rfl, trivial⟩, ?_⟩)
   refine stepV_off (i := 41) rfl hF rfl rfl rfl rfl fun a hF => ?_
   refine stepV (i := 42) rfl hF (fun w hS => Y.pick_t hF rfl rfl rfl) rfl fun a hF => ?_
   exact toTailV ⟨Dv_8, Stab.le.refl _, hF.weak ⟨rfl, rfl, rfl, rfl, rfl, rfl, trivial⟩, hS.weak ⟨rfl, rfl, rfl, trivial⟩⟩
  ·skip
   replace ht := cond_f ht hbv
   obtain rfl := some_inj ht
   rcases bcases (rv_3.2 != 0) with hbv_1 | hbv_1
   ·skip
    replace ht_1 := cond_t ht_1 hbv_1
    obtain rfl := some_inj ht_1
    replace ht_2 := cond_t ht_2 rfl
    obtain rfl := some_inj ht_2
    replace ht_3 := cond_t ht_3 rfl
    obtain rfl := some_inj ht_3
    replace ht_4 := cond_t ht_4 rfl
    obtain rfl := some_inj ht_4
    replace ht_5 := cond_t ht_5 rfl
    obtain rfl := some_inj ht_5
    replace ht_6 := cond_t ht_6 rfl
    obtain rfl := some_inj ht_6
    replace ht_7 := cond_t ht_7 rfl
    obtain rfl := some_inj ht_7
    replace ht_8 := cond_t ht_8 rfl
    obtain rfl := some_inj ht_8
    refine stepV (i := 0) rfl hF (fun w hS => Y.move hF rfl) rfl fun a hF => ?_
    refine stepV (i := 1) rfl hF (fun w hS => Y.neq hF rfl rfl) rfl fun a hF => ?_
    refine stepV (i := 2) rfl hF (fun w hS => Y.move hF rfl) rfl fun a hF => ?_
    refine stepV_on (i := 3) rfl hF rfl rfl hbv (fun w hS => Y.move hF rfl) rfl fun a hF => ?_
    refine stepV_on (i := 4) rfl hF rfl rfl hbv (fun w hS => Y.neq hF rfl rfl) rfl fun a hF => ?_
    refine stepV (i := 5) rfl hF (fun w hS => Y.pick_f hF rfl hbv rfl) rfl fun a hF => ?_
    refine stepV (i := 6) rfl hF (fun w hS => Y.move hF rfl) rfl fun a hF => ?_
    refine stepV_off (i := 7) rfl hF rfl rfl hbv_1 rfl fun a hF => ?_
    refine stepV_off (i := 8) rfl hF rfl rfl hbv_1 rfl fun a hF => ?_
    refine stepV (i := 9) rfl hF (fun w hS => Y.pick_t hF rfl hbv_1 rfl) rfl fun a hF => ?_
    refine stepV (i := 10) rfl hF (fun w hS => Y.move hF rfl) rfl fun a hF => ?_
    refine stepV_off (i := 11) rfl hF rfl rfl rfl rfl fun a hF => ?_
    refine stepV_off (i := 12) rfl hF rfl rfl rfl rfl fun a hF => ?_
    refine stepV (i := 13) rfl hF (fun w hS => Y.pick_t hF rfl rfl rfl) rfl fun a hF => ?_
    refine stepV (i := 14) rfl hF (fun w hS => Y.move hF rfl) rfl fun a hF => ?_
    refine stepV_off (i := 15) rfl hF rfl rfl rfl rfl fun a hF => ?_
    refine stepV_off (i := 16) rfl hF rfl rfl rfl rfl fun a hF => ?_
    refine stepV (i := 17) rfl hF (fun w hS => Y.pick_t hF rfl rfl rfl) rfl fun a hF => ?_
    refine stepV (i := 18) rfl hF (fun w hS => Y.move hF rfl) rfl fun a hF => ?_
    refine stepV_off (i := 19) rfl hF rfl rfl rfl rfl fun a hF => ?_
    refine stepV_off (i := 20) rfl hF rfl rfl rfl rfl fun a hF => ?_
    refine stepV (i := 21) rfl hF (fun w hS => Y.pick_t hF rfl rfl rfl) rfl fun a hF => ?_
    refine stepV (i := 22) rfl hF (fun w hS => Y.move hF rfl) rfl fun a hF => ?_
    refine stepV_off (i := 23) rfl hF rfl rfl rfl rfl fun a hF => ?_
    refine oneV (i := 24) rfl ?_ trivial
    refine guard_off hF rfl rfl rfl rfl fun a hF => nil (then_n ⟨hS.weak (ms := [(1, .cells b [.int .i64 rv_1.1.Low, .int .i64 rv_1.1.High] 34), (2, .cells b_1 [.int .i64 rv_3.1.Low, .int .i64 rv_3.1.High] 34), (3, .cells b_2 [.int .i64 rv_5.1.Low, .int .i64 rv_5.1.High] 34)]) ⟨rfl, rfl, rfl, trivial⟩, ?_⟩)
    refine stepV_off (i := 25) rfl hF rfl rfl rfl rfl fun a hF => ?_
    refine stepV (i := 26) rfl hF (fun w hS => Y.pick_t hF rfl rfl rfl) rfl fun a hF => ?_
    refine stepV (i := 27) rfl hF (fun w hS => Y.move hF rfl) rfl fun a hF => ?_
    refine stepV_off (i := 28) rfl hF rfl rfl rfl rfl fun a hF => ?_
    refine oneV (i := 29) rfl ?_ trivial
    refine guard_off hF rfl rfl rfl rfl fun a hF => nil (then_n ⟨hS.weak (ms := [(1, .cells b [.int .i64 rv_1.1.Low, .int .i64 rv_1.1.High] 34), (2, .cells b_1 [.int .i64 rv_3.1.Low, .int .i64 rv_3.1.High] 34), (3, .cells b_2 [.int .i64 rv_5.1.Low, .int .i64 rv_5.1.High] 34)]) ⟨rfl, rfl, rfl, trivial⟩, ?_⟩)
    refine stepV_off (i := 30) rfl hF rfl rfl rfl rfl fun a hF => ?_
    refine stepV (i := 31) rfl hF (fun w hS => Y.pick_t hF rfl rfl rfl) rfl fun a hF => ?_
    refine stepV (i := 32) rfl hF (fun w hS => Y.move hF rfl) rfl fun a hF => ?_
    refine stepV_off (i := 33) rfl hF rfl rfl rfl rfl fun a hF => ?_
    refine oneV (i := 34) rfl ?_ trivial
    refine guard_off hF rfl rfl rfl rfl fun a hF => nil (then_n ⟨hS.weak (ms := [(1, .cells b [.int .i64 rv_1.1.Low, .int .i64 rv_1.1.High] 34), (2, .cells b_1 [.int .i64 rv_3.1.Low, .int .i64 rv_3.1.High] 34), (3, .cells b_2 [.int .i64 rv_5.1.Low, .int .i64 rv_5.1.High] 34)]) ⟨rfl, rfl, rfl, trivial⟩, ?_⟩)
    refine stepV_off (i := 35) rfl hF rfl rfl rfl rfl fun a hF => ?_
    refine stepV (i := 36) rfl hF (fun w hS => Y.pick_t hF rfl rfl rfl) rfl fun a hF => ?_
    refine stepV (i := 37) rfl hF (fun w hS => Y.move hF rfl) rfl fun a hF => ?_
    refine stepV_off (i := 38) rfl hF rfl rfl rfl rfl fun a hF => ?_
    refine oneV (i := 39) rfl ?_ trivial
    refine guard_off hF rfl rfl rfl rfl fun a hF => nil (then_n ⟨hS.weak (ms := [(1, .cells b [.int .i64 rv_1.1.Low, .int .i64 rv_1.1.High] 34), (2, .cells b_1 [.int .i64 rv_3.1.Low, .int .i64 rv_3.1.High] 34), (3, .cells b_2 [.int .i64 rv_5.1.Low, .int .i64 rv_5.1.High] 34)]) ⟨rfl, rfl, rfl, trivial⟩, ?_⟩)
    refine oneV (i := 40) rfl ?_ trivial
    refine guard_off hF rfl rfl rfl rfl fun a hF => nil (then_n ⟨hS.weak (ms := [(1, .cells b [.int .i64 rv_1.1.Low, .int .i64 rv_1.1.High] 34), (2, .cells b_1 [.int .i64 rv_3.1.Low, .int .i64 rv_3.1.High] 34), (3, .cells b_2 [.int .i64 rv_5.1.Low, .int .i64 rv_5.1.High] 34)]) ⟨rfl, rfl, rfl, trivial⟩, ?_⟩)
    refine stepV_off (i := 41) rfl hF rfl rfl rfl rfl fun a hF => ?_
    refine stepV (i := 42) rfl hF (fun w hS => Y.pick_t hF rfl rfl rfl) rfl fun a hF => ?_
    exact toTailV ⟨Dv_8, Stab.le.refl _, hF.weak ⟨rfl, rfl, rfl, rfl, rfl, rfl, trivial⟩, hS.weak ⟨rfl, rfl, rfl, trivial⟩⟩
   ·skip
    replace ht_1 := cond_f ht_1 hbv_1
    obtain rfl := some_inj ht_1
    rcases bcases (rv_5.2 != 0) with hbv_2 | hbv_2
    ·skip
     replace ht_2 := cond_t ht_2 hbv_2
     obtain rfl := some_inj ht_2
     replace ht_3 := cond_t ht_3 rfl
     obtain rfl := some_inj ht_3
     replace ht_4 := cond_t ht_4 rfl
     obtain rfl := some_inj ht_4
     replace ht_5 := cond_t ht_5 rfl
     obtain rfl := some_inj ht_5
     replace ht_6 := cond_t ht_6 rfl
     obtain rfl := some_inj ht_6
     replace ht_7 := cond_t ht_7 rfl
     obtain rfl := some_inj ht_7
     replace ht_8 := cond_t ht_8 rfl
     obtain rfl := some_inj ht_8
     refine stepV (i := 0) rfl hF (fun w hS => Y.move hF rfl) rfl fun a hF => ?_
     refine stepV (i := 1) rfl hF (fun w hS => Y.neq hF rfl rfl) rfl fun a hF => ?_
     refine stepV (i := 2) rfl hF (fun w hS => Y.move hF rfl) rfl fun a hF => ?_
     refine stepV_on (i := 3) rfl hF rfl rfl hbv (fun w hS => Y.move hF rfl) rfl fun a hF => ?_
     refine stepV_on (i := 4) rfl hF rfl rfl hbv (fun w hS => Y.neq hF rfl rfl) rfl fun a hF => ?_
     refine stepV (i := 5) rfl hF (fun w hS => Y.pick_f hF rfl hbv rfl) rfl fun a hF => ?_
     refine stepV (i := 6) rfl hF (fun w hS => Y.move hF rfl) rfl fun a hF => ?_
     refine stepV_on (i := 7) rfl hF rfl rfl hbv_1 (fun w hS => Y.move hF rfl) rfl fun a hF => ?_
     refine stepV_on (i := 8) rfl hF rfl rfl hbv_1 (fun w hS => Y.neq hF rfl rfl) rfl fun a hF => ?_
     refine stepV (i := 9) rfl hF (fun w hS => Y.pick_f hF rfl hbv_1 rfl) rfl fun a hF => ?_
     refine stepV (i := 10) rfl hF (fun w hS => Y.move hF rfl) rfl fun a hF => ?_
     refine stepV_off (i := 11) rfl hF rfl rfl hbv_2 rfl fun a hF => ?_
     refine stepV_off (i := 12) rfl hF rfl rfl hbv_2 rfl fun a hF => ?_
     refine stepV (i := 13) rfl hF (fun w hS => Y.pick_t hF rfl hbv_2 rfl) rfl fun a hF => ?_
     refine stepV (i := 14) rfl hF (fun w hS => Y.move hF rfl) rfl fun a hF => ?_
     refine stepV_off (i := 15) rfl hF rfl rfl rfl rfl fun a hF => ?_
     refine stepV_off (i := 16) rfl hF rfl rfl rfl rfl fun a hF => ?_
     refine stepV (i := 17) rfl hF (fun w hS => Y.pick_t hF rfl rfl rfl) rfl fun a hF => ?_
     refine stepV (i := 18) rfl hF (fun w hS => Y.move hF rfl) rfl fun a hF => ?_
     refine stepV_off (i := 19) rfl hF rfl rfl rfl rfl fun a hF => ?_
     refine stepV_off (i := 20) rfl hF rfl rfl rfl rfl fun a hF => ?_
     refine stepV (i := 21) rfl hF (fun w hS => Y.pick_t hF rfl rfl rfl) rfl fun a hF => ?_
     refine stepV (i := 22) rfl hF (fun w hS => Y.move hF rfl) rfl fun a hF => ?_
     refine stepV_off (i := 23) rfl hF rfl rfl rfl rfl fun a hF => ?_
     refine oneV (i := 24) rfl ?_ trivial
     refine guard_off hF rfl rfl rfl rfl fun a hF => nil (then_n ⟨hS.weak (ms := [(1, .cells b [.int .i64 rv_1.1.Low, .int .i64 rv_1.1.High] 34), (2, .cells b_1 [.int .i64 rv_3.1.Low, .int .i64 rv_3.1.High] 34), (3, .cells b_2 [.int .i64 rv_5.1.Low, .int .i64 rv_5.1.High] 34)]) ⟨rfl, rfl, rfl, trivial⟩, ?_⟩)
     refine stepV_off (i := 25) rfl hF rfl rfl rfl rfl fun a hF => ?_
     refine stepV (i := 26) rfl hF (fun w hS => Y.pick_t hF rfl rfl rfl) rfl fun a hF => ?_
     refine stepV (i := 27) rfl hF (fun w hS => Y.move hF rfl) rfl fun a hF => ?_
     refine stepV_off (i := 28) rfl hF rfl rfl rfl rfl fun a hF => ?_
     refine oneV (i := 29) rfl ?_ trivial
     refine guard_off hF rfl rfl rfl rfl fun a hF => nil (then_n ⟨hS.weak (ms := [(1, .cells b [.int .i64 rv_1.1.Low, .int .i64 rv_1.1.High] 34), (2, .cells b_1 [.int .i64 rv_3.1.Low, .int .i64 rv_3.1.High] 34), (3, .cells b_2 [.int .i64 rv_5.1.Low, .int .i64 rv_5.1.High] 34)]) ⟨rfl, rfl, rfl, trivial⟩, ?_⟩)
     refine stepV_off (i := 30) rfl hF rfl rfl rfl rfl fun a hF => ?_
     refine stepV (i := 31) rfl hF (fun w hS => Y.pick_t hF rfl rfl rfl) rfl fun a hF => ?_
     refine stepV (i := 32) rfl hF (fun w hS => Y.move hF rfl) rfl fun a hF => ?_
     refine stepV_off (i := 33) rfl hF rfl rfl rfl rfl fun a hF => ?_
     refine oneV (i := 34) rfl ?_ trivial
     refine guard_off hF rfl rfl rfl rfl fun a hF => nil (then_n ⟨hS.weak (ms := [(1, .cells b [.int .i64 rv_1.1.Low, .int .i64 rv_1.1.High] 34), (2, .cells b_1 [.int .i64 rv_3.1.Low, .int .i64 rv_3.1.High] 34), (3, .cells b_2 [.int .i64 rv_5.1.Low, .int .i64 rv_5.1.High] 34)]) ⟨rfl, rfl, rfl, trivial⟩, ?_⟩)
     refine stepV_off (i := 35) rfl hF rfl rfl rfl rfl fun a hF => ?_
     refine stepV (i := 36) rfl hF (fun w hS => Y.pick_t hF rfl rfl rfl) rfl fun a hF => ?_
     refine stepV (i := 37) rfl hF (fun w hS => Y.move hF rfl) rfl fun a hF => ?_
     refine stepV_off (i := 38) rfl hF rfl rfl rfl rfl fun a hF => ?_
     refine oneV (i := 39) rfl ?_ trivial
     refine guard_off hF rfl rfl rfl rfl fun a hF => nil (then_n ⟨hS.weak (ms := [(1, .cells b [.int .i64 rv_1.1.Low, .int .i64 rv_1.1.High] 34), (2, .cells b_1 [.int .i64 rv_3.1.Low, .int .i64 rv_3.1.High] 34), (3, .cells b_2 [.int .i64 rv_5.1.Low, .int .i64 rv_5.1.High] 34)]) ⟨rfl, rfl, rfl, trivial⟩, ?_⟩)
     refine oneV (i := 40) rfl ?_ trivial
     refine guard_off hF rfl rfl rfl rfl fun a hF => nil (then_n ⟨hS.weak (ms := [(1, .cells b [.int .i64 rv_1.1.Low, .int .i64 rv_1.1.High] 34), (2, .cells b_1 [.int .i64 rv_3.1.Low, .int .i64 rv_3.1.High] 34), (3, .cells b_2 [.int .i64 rv_5.1.Low, .int .i64 rv_5.1.High] 34)]) ⟨rfl, rfl, rfl, trivial⟩, ?_⟩)
     refine stepV_off (i := 41) rfl hF rfl rfl rfl rfl fun a hF => ?_
     refine stepV (i := 42) rfl hF (fun w hS => Y.pick_t hF rfl rfl rfl) rfl fun a hF => ?_
     exact toTailV ⟨Dv_8, Stab.le.refl _, hF.weak ⟨rfl, rfl, rfl, rfl, rfl, rfl, trivial⟩, hS.weak ⟨rfl, rfl, rfl, trivial⟩⟩
    ·skip
     replace ht_2 := cond_f ht_2 hbv_2
     obtain rfl := some_inj ht_2
     rcases bcases (rv_7.2 != 0) with hbv_3 | hbv_3
     ·skip
      replace ht_3 := cond_t ht_3 hbv_3
      obtain rfl := some_inj ht_3
      replace ht_4 := cond_t ht_4 rfl
      obtain rfl := some_inj ht_4
      replace ht_5 := cond_t ht_5 rfl
      obtain rfl := some_inj ht_5
      replace ht_6 := cond_t ht_6 rfl
      obtain rfl := some_inj ht_6
      replace ht_7 := cond_t ht_7 rfl
      obtain rfl := some_inj ht_7
      replace ht_8 := cond_t ht_8 rfl
      obtain rfl := some_inj ht_8
      refine stepV (i := 0) rfl hF (fun w hS => Y.move hF rfl) rfl fun a hF => ?_
      refine stepV (i := 1) rfl hF (fun w hS => Y.neq hF rfl rfl) rfl fun a hF => ?_
      refine stepV (i := 2) rfl hF (fun w hS => Y.move hF rfl) rfl fun a hF => ?_
      refine stepV_on (i := 3) rfl hF rfl rfl hbv (fun w hS => Y.move hF rfl) rfl fun a hF => ?_
      refine stepV_on (i := 4) rfl hF rfl rfl hbv (fun w hS => Y.neq hF rfl rfl) rfl fun a hF => ?_
      refine stepV (i := 5) rfl hF (fun w hS => Y.pick_f hF rfl hbv rfl) rfl fun a hF => ?_
      refine stepV (i := 6) rfl hF (fun w hS => Y.move hF rfl) rfl fun a hF => ?_
      refine stepV_on (i := 7) rfl hF rfl rfl hbv_1 (fun w hS => Y.move hF rfl) rfl fun a hF => ?_
      refine stepV_on (i := 8) rfl hF rfl rfl hbv_1 (fun w hS => Y.neq hF rfl rfl) rfl fun a hF => ?_
      refine stepV (i := 9) rfl hF (fun w hS => Y.pick_f hF rfl hbv_1 rfl) rfl fun a hF => ?_
      refine stepV (i := 10) rfl hF (fun w hS => Y.move hF rfl) rfl fun a hF => ?_
      refine stepV_on (i := 11) rfl hF rfl rfl hbv_2 (fun w hS => Y.move hF rfl) rfl fun a hF => ?_
      refine stepV_on (i := 12) rfl hF rfl rfl hbv_2 (fun w hS => Y.neq hF rfl rfl) rfl fun a hF => ?_
      refine stepV (i := 13) rfl hF (fun w hS => Y.pick_f hF rfl hbv_2 rfl) rfl fun a hF => ?_
      refine stepV (i := 14) rfl hF (fun w hS => Y.move hF rfl) rfl fun a hF => ?_
      refine stepV_off (i := 15) rfl hF rfl rfl hbv_3 rfl fun a hF => ?_
      refine stepV_off (i := 16) rfl hF rfl rfl hbv_3 rfl fun a hF => ?_
      refine stepV (i := 17) rfl hF (fun w hS => Y.pick_t hF rfl hbv_3 rfl) rfl fun a hF => ?_
      refine stepV (i := 18) rfl hF (fun w hS => Y.move hF rfl) rfl fun a hF => ?_
      refine stepV_off (i := 19) rfl hF rfl rfl rfl rfl fun a hF => ?_
      refine stepV_off (i := 20) rfl hF rfl rfl rfl rfl fun a hF => ?_
      refine stepV (i := 21) rfl hF (fun w hS => Y.pick_t hF rfl rfl rfl) rfl fun a hF => ?_
      refine stepV (i := 22) rfl hF (fun w hS => Y.move hF rfl) rfl fun a hF => ?_
      refine stepV_off (i := 23) rfl hF rfl rfl rfl rfl fun a hF => ?_
      refine oneV (i := 24) rfl ?_ trivial
      refine guard_off hF rfl rfl rfl rfl fun a hF => nil (then_n ⟨hS.weak (ms := [(1, .cells b [.int .i64 rv_1.1.Low, .int .i64 rv_1.1.High] 34), (2, .cells b_1 [.int .i64 rv_3.1.Low, .int .i64 rv_3.1.High] 34), (3, .cells b_2 [.int .i64 rv_5.1.Low, .int .i64 rv_5.1.High] 34)]) ⟨rfl, rfl, rfl, trivial⟩, ?_⟩)
      refine stepV_off (i := 25) rfl hF rfl rfl rfl rfl fun a hF => ?_
      refine stepV (i := 26) rfl hF (fun w hS => Y.pick_t hF rfl rfl rfl) rfl fun a hF => ?_
      refine stepV (i := 27) rfl hF (fun w hS => Y.move hF rfl) rfl fun a hF => ?_
      refine stepV_off (i := 28) rfl hF rfl rfl rfl rfl fun a hF => ?_
      refine oneV (i := 29) rfl ?_ trivial
      refine guard_off hF rfl rfl rfl rfl fun a hF => nil (then_n ⟨hS.weak (ms := [(1, .cells b [.int .i64 rv_1.1.Low, .int .i64 rv_1.1.High] 34), (2, .cells b_1 [.int .i64 rv_3.1.Low, .int .i64 rv_3.1.High] 34), (3, .cells b_2 [.int .i64 rv_5.1.Low, .int .i64 rv_5.1.High] 34)]) ⟨rfl, rfl, rfl, trivial⟩, ?_⟩)
      refine stepV_off (i := 30) rfl hF rfl rfl rfl rfl fun a hF => ?_
      refine stepV (i := 31) rfl hF (fun w hS => Y.pick_t hF rfl rfl rfl) rfl fun a hF => ?_
      refine stepV (i := 32) rfl hF (fun w hS => Y.move hF rfl) rfl fun a hF => ?_
      refine stepV_off (i := 33) rfl hF rfl rfl rfl rfl fun a hF => ?_
      refine oneV (i := 34) rfl ?_ trivial
      refine guard_off hF rfl rfl rfl rfl fun a hF => nil (then_n ⟨hS.weak (ms := [(1, .cells b [.int .i64 rv_1.1.Low, .int .i64 rv_1.1.High] 34), (2, .cells b_1 [.int .i64 rv_3.1.Low, .int .i64 rv_3.1.High] 34), (3, .cells b_2 [.int .i64 rv_5.1.Low, .int .i64 rv_5.1.High] 34)]) ⟨rfl, rfl, rfl, trivial⟩, ?_⟩)
      refine stepV_off (i := 35) rfl hF rfl rfl rfl rfl fun a hF => ?_
      refine stepV (i := 36) rfl hF (fun w hS => Y.pick_t hF rfl rfl rfl) rfl fun a hF => ?_
      refine stepV (i := 37) rfl hF (fun w hS => Y.move hF rfl) rfl fun a hF => ?_
      refine stepV_off (i := 38) rfl hF rfl rfl rfl rfl fun a hF => ?_
      refine oneV (i := 39) rfl ?_ trivial
      refine guard_off hF rfl rfl rfl rfl fun a hF => nil (then_n ⟨hS.weak (ms := [(1, .cells b [.int .i64 rv_1.1.Low, .int .i64 rv_1.1.High] 34), (2, .cells b_1 [.int .i64 rv_3.1.Low, .int .i64 rv_3.1.High] 34), (3, .cells b_2 [.int .i64 rv_5.1.Low, .int .i64 rv_5.1.High] 34)]) ⟨rfl, rfl, rfl, trivial⟩, ?_⟩)
      refine oneV (i := 40) rfl ?_ trivial
      refine guard_off hF rfl rfl rfl rfl fun a hF => nil (then_n ⟨hS.weak (ms := [(1, .cells b [.int .i64 rv_1.1.Low, .int .i64 rv_1.1.High] 34), (2, .cells b_1 [.int .i64 rv_3.1.Low, .int .i64 rv_3.1.High] 34), (3, .cells b_2 [.int .i64 rv_5.1.Low, .int .i64 rv_5.1.High] 34)]) ⟨rfl, rfl, rfl, trivial⟩, ?_⟩)
      refine stepV_off (i := 41) rfl hF rfl rfl rfl rfl fun a hF => ?_
      refine stepV (i := 42) rfl hF (fun w hS => Y.pick_t hF rfl rfl rfl) rfl fun a hF => ?_
      exact toTailV ⟨Dv_8, Stab.le.refl _, hF.weak ⟨rfl, rfl, rfl, rfl, rfl, rfl, trivial⟩, hS.weak ⟨rfl, rfl, rfl, trivial⟩⟩
     ·skip
      replace ht_3 := cond_f ht_3 hbv_3
      obtain rfl := some_inj ht_3
      rcases bcases (rv_10.2 != 0) with hbv_4 | hbv_4
      ·skip
       replace ht_4 := cond_t ht_4 hbv_4
       obtain rfl := some_inj ht_4
       replace ht_5 := cond_t ht_5 rfl
       obtain rfl := some_inj ht_5
       replace ht_6 := cond_t ht_6 rfl
       obtain rfl := some_inj ht_6
       replace ht_7 := cond_t ht_7 rfl
       obtain rfl := some_inj ht_7
       replace ht_8 := cond_t ht_8 rfl
       obtain rfl := some_inj ht_8
       refine stepV (i := 0) rfl hF (fun w hS => Y.move hF rfl) rfl fun a hF => ?_
       refine stepV (i := 1) rfl hF (fun w hS => Y.neq hF rfl rfl) rfl fun a hF => ?_
       refine stepV (i := 2) rfl hF (fun w hS => Y.move hF rfl) rfl fun a hF => ?_
       refine stepV_on (i := 3) rfl hF rfl rfl hbv (fun w hS => Y.move hF rfl) rfl fun a hF => ?_
       refine stepV_on (i := 4) rfl hF rfl rfl hbv (fun w hS => Y.neq hF rfl rfl) rfl fun a hF => ?_
       refine stepV (i := 5) rfl hF (fun w hS => Y.pick_f hF rfl hbv rfl) rfl fun a hF => ?_
       refine stepV (i := 6) rfl hF (fun w hS => Y.move hF rfl) rfl fun a hF => ?_
       refine stepV_on (i := 7) rfl hF rfl rfl hbv_1 (fun w hS => Y.move hF rfl) rfl fun a hF => ?_
       refine stepV_on (i := 8) rfl hF rfl rfl hbv_1 (fun w hS => Y.neq hF rfl rfl) rfl fun a hF => ?_
       refine stepV (i := 9) rfl hF (fun w hS => Y.pick_f hF rfl hbv_1 rfl) rfl fun a hF => ?_
       refine stepV (i := 10) rfl hF (fun w hS => Y.move hF rfl) rfl fun a hF => ?_
       refine stepV_on (i := 11) rfl hF rfl rfl hbv_2 (fun w hS => Y.move hF rfl) rfl fun a hF => ?_
       refine stepV_on (i := 12) rfl hF rfl rfl hbv_2 (fun w hS => Y.neq hF rfl rfl) rfl fun a hF => ?_
       refine stepV (i := 13) rfl hF (fun w hS => Y.pick_f hF rfl hbv_2 rfl) rfl fun a hF => ?_
       refine stepV (i := 14) rfl hF (fun w hS => Y.move hF rfl) rfl fun a hF => ?_
       refine stepV_on (i := 15) rfl hF rfl rfl hbv_3 (fun w hS => Y.move hF rfl) rfl fun a hF => ?_
       refine stepV_on (i := 16) rfl hF rfl rfl hbv_3 (fun w hS => Y.neq hF rfl rfl) rfl fun a hF => ?_
       refine stepV (i := 17) rfl hF (fun w hS => Y.pick_f hF rfl hbv_3 rfl) rfl fun a hF => ?_
       refine stepV (i := 18) rfl hF (fun w hS => Y.move hF rfl) rfl fun a hF => ?_
       refine stepV_off (i := 19) rfl hF rfl rfl hbv_4 rfl fun a hF => ?_
       refine stepV_off (i := 20) rfl hF rfl rfl hbv_4 rfl fun a hF => ?_
       refine stepV (i := 21) rfl hF (fun w hS => Y.pick_t hF rfl hbv_4 rfl) rfl fun a hF => ?_
       refine stepV (i := 22) rfl hF (fun w hS => Y.move hF rfl) rfl fun a hF => ?_
       refine stepV_off (i := 23) rfl hF rfl rfl rfl rfl fun a hF => ?_
       refine oneV (i := 24) rfl ?_ trivial
       refine guard_off hF rfl rfl rfl rfl fun a hF => nil (then_n ⟨hS.weak (ms := [(1, .cells b [.int .i64 rv_1.1.Low, .int .i64 rv_1.1.High] 34), (2, .cells b_1 [.int .i64 rv_3.1.Low, .int .i64 rv_3.1.High] 34), (3, .cells b_2 [.int .i64 rv_5.1.Low, .int .i64 rv_5.1.High] 34)]) ⟨rfl, rfl, rfl, trivial⟩, ?_⟩)
       refine stepV_off (i := 25) rfl hF rfl rfl rfl rfl fun a hF => ?_
       refine stepV (i := 26) rfl hF (fun w hS => Y.pick_t hF rfl rfl rfl) rfl fun a hF => ?_
       refine stepV (i := 27) rfl hF (fun w hS => Y.move hF rfl) rfl fun a hF => ?_
       refine stepV_off (i := 28) rfl hF rfl rfl rfl rfl fun a hF => ?_
       refine oneV (i := 29) rfl ?_ trivial
       refine guard_off hF rfl rfl rfl rfl fun a hF => nil (then_n ⟨hS.weak (ms := [(1, .cells b [.int .i64 rv_1.1.Low, .int .i64 rv_1.1.High] 34), (2, .cells b_1 [.int .i64 rv_3.1.Low, .int .i64 rv_3.1.High] 34), (3, .cells b_2 [.int .i64 rv_5.1.Low, .int .i64 rv_5.1.High] 34)]) ⟨rfl, rfl, rfl, trivial⟩, ?_⟩)
       refine stepV_off (i := 30) rfl hF rfl rfl rfl rfl fun a hF => ?_
       refine stepV (i := 31) rfl hF (fun w hS => Y.pick_t hF rfl rfl rfl) rfl fun a hF => ?_
       refine stepV (i := 32) rfl hF (fun w hS => Y.move hF rfl) rfl fun a hF => ?_
       refine stepV_off (i := 33) rfl hF rfl rfl rfl rfl fun a hF => ?_
       refine oneV (i := 34) rfl ?_ trivial
       refine guard_off hF rfl rfl rfl rfl fun a hF => nil (then_n ⟨hS.weak (ms := [(1, .cells b [.int .i64 rv_1.1.Low, .int .i64 rv_1.1.High] 34), (2, .cells b_1 [.int .i64 rv_3.1.Low, .int .i64 rv_3.1.High] 34), (3, .cells b_2 [.int .i64 rv_5.1.Low, .int .i64 rv_5.1.High] 34)]) ⟨rfl, rfl, rfl, trivial⟩, ?_⟩)
       refine stepV_off (i := 35) rfl hF rfl rfl rfl rfl fun a hF => ?_
       refine stepV (i := 36) rfl hF (fun w hS => Y.pick_t hF rfl rfl rfl) rfl fun a hF => ?_
       refine stepV (i := 37) rfl hF (fun w hS => Y.move hF rfl) rfl fun a hF => ?_
       refine stepV_off (i := 38) rfl hF rfl rfl rfl rfl fun a hF => ?_
       refine oneV (i := 39) rfl ?_ trivial
       refine guard_off hF rfl rfl rfl rfl fun a hF => nil (then_n ⟨hS.weak (ms := [(1, .cells b [.int .i64 rv_1.1.Low, .int .i64 rv_1.1.High] 34), (2, .cells b_1 [.int .i64 rv_3.1.Low, .int .i64 rv_3.1.High] 34), (3, .cells b_2 [.int .i64 rv_5.1.Low, .int .i64 rv_5.1.High] 34)]) ⟨rfl, rfl, rfl, trivial⟩, ?_⟩)
       refine oneV (i := 40) rfl ?_ trivial
       refine guard_off hF rfl rfl rfl rfl fun a hF => nil (then_n ⟨hS.weak (ms := [(1, .cells b [.int .i64 rv_1.1.Low, .int .i64 rv_1.1.High] 34), (2, .cells b_1 [.int .i64 rv_3.1.Low, .int .i64 rv_3.1.High] 34), (3, .cells b_2 [.int .i64 rv_5.1.Low, .int .i64 rv_5.1.High] 34)]) ⟨rfl, rfl, rfl, trivial⟩, ?_⟩)
       refine stepV_off (i := 41) rfl hF rfl rfl rfl rfl fun a hF => ?_
       refine stepV (i := 42) rfl hF (fun w hS => Y.pick_t hF rfl rfl rfl) rfl fun a hF => ?_
       exact toTailV ⟨Dv_8, Stab.le.refl _, hF.weak ⟨rfl, rfl, rfl, rfl, rfl, rfl, trivial⟩, hS.weak ⟨rfl, rfl, rfl, trivial⟩⟩
      ·skip
       replace ht_4 := cond_f ht_4 hbv_4
       obtain rfl := some_inj ht_4
       rcases bcases (rv_12.2.2 != 0) with hbv_5 | hbv_5
       ·skip
        replace ht_5 := cond_t ht_5 hbv_5
        obtain rfl := some_inj ht_5
        replace ht_6 := cond_t ht_6 rfl
        obtain rfl := some_inj ht_6
        replace ht_7 := cond_t ht_7 rfl
        obtain rfl := some_inj ht_7
        replace ht_8 := cond_t ht_8 rfl
        obtain rfl := some_inj ht_8
        refine stepV (i := 0) rfl hF (fun w hS => Y.move hF rfl) rfl fun a hF => ?_
        refine stepV (i := 1) rfl hF (fun w hS => Y.neq hF rfl rfl) rfl fun a hF => ?_
        refine stepV (i := 2) rfl hF (fun w hS => Y.move hF rfl) rfl fun a hF => ?_
        refine stepV_on (i := 3) rfl hF rfl rfl hbv (fun w hS => Y.move hF rfl) rfl fun a hF => ?_
        refine stepV_on (i := 4) rfl hF rfl rfl hbv (fun w hS => Y.neq hF rfl rfl) rfl fun a hF => ?_
        refine stepV (i := 5) rfl hF (fun w hS => Y.pick_f hF rfl hbv rfl) rfl fun a hF => ?_
        refine stepV (i := 6) rfl hF (fun w hS => Y.move hF rfl) rfl fun a hF => ?_
        refine stepV_on (i := 7) rfl hF rfl rfl hbv_1 (fun w hS => Y.move hF rfl) rfl fun a hF => ?_
        refine stepV_on (i := 8) rfl hF rfl rfl hbv_1 (fun w hS => Y.neq hF rfl rfl) rfl fun a hF => ?_
        refine stepV (i := 9) rfl hF (fun w hS => Y.pick_f hF rfl hbv_1 rfl) rfl fun a hF => ?_
        refine stepV (i := 10) rfl hF (fun w hS => Y.move hF rfl) rfl fun a hF => ?_
        refine stepV_on (i := 11) rfl hF rfl rfl hbv_2 (fun w hS => Y.move hF rfl) rfl fun a hF => ?_
        refine stepV_on (i := 12) rfl hF rfl rfl hbv_2 (fun w hS => Y.neq hF rfl rfl) rfl fun a hF => ?_
        refine stepV (i := 13) rfl hF (fun w hS => Y.pick_f hF rfl hbv_2 rfl) rfl fun a hF => ?_
        refine stepV (i := 14) rfl hF (fun w hS => Y.move hF rfl) rfl fun a hF => ?_
        refine stepV_on (i := 15) rfl hF rfl rfl hbv_3 (fun w hS => Y.move hF rfl) rfl fun a hF => ?_
        refine stepV_on (i := 16) rfl hF rfl rfl hbv_3 (fun w hS => Y.neq hF rfl rfl) rfl fun a hF => ?_
        refine stepV (i := 17) rfl hF (fun w hS => Y.pick_f hF rfl hbv_3 rfl) rfl fun a hF => ?_
        refine stepV (i := 18) rfl hF (fun w hS => Y.move hF rfl) rfl fun a hF => ?_
        refine stepV_on (i := 19) rfl hF rfl rfl hbv_4 (fun w hS => Y.move hF rfl) rfl fun a hF => ?_
        refine stepV_on (i := 20) rfl hF rfl rfl hbv_4 (fun w hS => Y.neq hF rfl rfl) rfl fun a hF => ?_
        refine stepV (i := 21) rfl hF (fun w hS => Y.pick_f hF rfl hbv_4 rfl) rfl fun a hF => ?_
        refine stepV (i := 22) rfl hF (fun w hS => Y.move hF rfl) rfl fun a hF => ?_
        refine stepV_off (i := 23) rfl hF rfl rfl hbv_5 rfl fun a hF => ?_
        refine oneV (i := 24) rfl ?_ trivial
        refine guard_off hF rfl rfl hbv_5 rfl fun a hF => nil (then_n ⟨hS.weak (ms := [(1, .cells b [.int .i64 rv_1.1.Low, .int .i64 rv_1.1.High] 34), (2, .cells b_1 [.int .i64 rv_3.1.Low, .int .i64 rv_3.1.High] 34), (3, .cells b_2 [.int .i64 rv_5.1.Low, .int .i64 rv_5.1.High] 34)]) ⟨rfl, rfl, rfl, trivial⟩, ?_⟩)
        refine stepV_off (i := 25) rfl hF rfl rfl hbv_5 rfl fun a hF => ?_
        refine stepV (i := 26) rfl hF (fun w hS => Y.pick_t hF rfl hbv_5 rfl) rfl fun a hF => ?_
        refine stepV (i := 27) rfl hF (fun w hS => Y.move hF rfl) rfl fun a hF => ?_
        refine stepV_off (i := 28) rfl hF rfl rfl rfl rfl fun a hF => ?_
        refine oneV (i := 29) rfl ?_ trivial
        refine guard_off hF rfl rfl rfl rfl fun a hF => nil (then_n ⟨hS.weak (ms := [(1, .cells b [.int .i64 rv_1.1.Low, .int .i64 rv_1.1.High] 34), (2, .cells b_1 [.int .i64 rv_3.1.Low, .int .i64 rv_3.1.High] 34), (3, .cells b_2 [.int .i64 rv_5.1.Low, .int .i64 rv_5.1.High] 34)]) ⟨rfl, rfl, rfl, trivial⟩, ?_⟩)
        refine stepV_off (i := 30) rfl hF rfl rfl rfl rfl fun a hF => ?_
        refine stepV (i := 31) rfl hF (fun w hS => Y.pick_t hF rfl rfl rfl) rfl fun a hF => ?_
        refine stepV (i := 32) rfl hF (fun w hS => Y.move hF rfl) rfl fun a hF => ?_
        refine stepV_off (i := 33) rfl hF rfl rfl rfl rfl fun a hF => ?_
        refine oneV (i := 34) rfl ?_ trivial
        refine guard_off hF rfl rfl rfl rfl fun a hF => nil (then_n ⟨hS.weak (ms := [(1, .cells b [.int .i64 rv_1.1.Low, .int .i64 rv_1.1.High] 34), (2, .cells b_1 [.int .i64 rv_3.1.Low, .int .i64 rv_3.1.High] 34), (3, .cells b_2 [.int .i64 rv_5.1.Low, .int .i64 rv_5.1.High] 34)]) ⟨rfl, rfl, rfl, trivial⟩, ?_⟩)
        refine stepV_off (i := 35) rfl hF rfl rfl rfl rfl fun a hF => ?_
        refine stepV (i := 36) rfl hF (fun w hS => Y.pick_t hF rfl rfl rfl) rfl fun a hF => ?_
        refine stepV (i := 37) rfl hF (fun w hS => Y.move hF rfl) rfl fun a hF => ?_
        refine stepV_off (i := 38) rfl hF rfl rfl rfl rfl fun a hF => ?_
        refine oneV (i := 39) rfl ?_ trivial
        refine guard_off hF rfl rfl rfl rfl fun a hF => nil (then_n ⟨hS.weak (ms := [(1, .cells b [.int .i64 rv_1.1.Low, .int .i64 rv_1.1.High] 34), (2, .cells b_1 [.int .i64 rv_3.1.Low, .int .i64 rv_3.1.High] 34), (3, .cells b_2 [.int .i64 rv_5.1.Low, .int .i64 rv_5.1.High] 34)]) ⟨rfl, rfl, rfl, trivial⟩, ?_⟩)
        refine oneV (i := 40) rfl ?_ trivial
        refine guard_off hF rfl rfl rfl rfl fun a hF => nil (then_n ⟨hS.weak (ms := [(1, .cells b [.int .i64 rv_1.1.Low, .int .i64 rv_1.1.High] 34), (2, .cells b_1 [.int .i64 rv_3.1.Low, .int .i64 rv_3.1.High] 34), (3, .cells b_2 [.int .i64 rv_5.1.Low, .int .i64 rv_5.1.High] 34)]) ⟨rfl, rfl, rfl, trivial⟩, ?_⟩)
        refine stepV_off (i := 41) rfl hF rfl rfl rfl rfl fun a hF => ?_
        refine stepV (i := 42) rfl hF (fun w hS => Y.pick_t hF rfl rfl rfl) rfl fun a hF => ?_
        exact toTailV ⟨Dv_8, Stab.le.refl _, hF.weak ⟨rfl, rfl, rfl, rfl, rfl, rfl, trivial⟩, hS.weak ⟨rfl, rfl, rfl, trivial⟩⟩
       ·skip
        replace ht_5 := cond_f ht_5 hbv_5
        obtain ⟨rv_13, hx_13, ht_5⟩ := bind_some ht_5
        obtain rfl := some_inj ht_5
        rcases bcases (!([rv_1.1.Low, rv_1.1.High] == [rv_13.Low, rv_13.High])) with hbv_6 | hbv_6
        ·skip
         replace ht_6 := cond_t ht_6 hbv_6
         obtain rfl := some_inj ht_6
         replace ht_7 := cond_t ht_7 rfl
         obtain rfl := some_inj ht_7
         replace ht_8 := cond_t ht_8 rfl
         obtain rfl := some_inj ht_8
         refine stepV (i := 0) rfl hF (fun w hS => Y.move hF rfl) rfl fun a hF => ?_
         refine stepV (i := 1) rfl hF (fun w hS => Y.neq hF rfl rfl) rfl fun a hF => ?_
         refine stepV (i := 2) rfl hF (fun w hS => Y.move hF rfl) rfl fun a hF => ?_
         refine stepV_on (i := 3) rfl hF rfl rfl hbv (fun w hS => Y.move hF rfl) rfl fun a hF => ?_
         refine stepV_on (i := 4) rfl hF rfl rfl hbv (fun w hS => Y.neq hF rfl rfl) rfl fun a hF => ?_
         refine stepV (i := 5) rfl hF (fun w hS => Y.pick_f hF rfl hbv rfl) rfl fun a hF => ?_
         refine stepV (i := 6) rfl hF (fun w hS => Y.move hF rfl) rfl fun a hF => ?_
         refine stepV_on (i := 7) rfl hF rfl rfl hbv_1 (fun w hS => Y.move hF rfl) rfl fun a hF => ?_
         refine stepV_on (i := 8) rfl hF rfl rfl hbv_1 (fun w hS => Y.neq hF rfl rfl) rfl fun a hF => ?_
         refine stepV (i := 9) rfl hF (fun w hS => Y.pick_f hF rfl hbv_1 rfl) rfl fun a hF => ?_
         refine stepV (i := 10) rfl hF (fun w hS => Y.move hF rfl) rfl fun a hF => ?_
         refine stepV_on (i := 11) rfl hF rfl rfl hbv_2 (fun w hS => Y.move hF rfl) rfl fun a hF => ?_
         refine stepV_on (i := 12) rfl hF rfl rfl hbv_2 (fun w hS => Y.neq hF rfl rfl) rfl fun a hF => ?_
         refine stepV (i := 13) rfl hF (fun w hS => Y.pick_f hF rfl hbv_2 rfl) rfl fun a hF => ?_
         refine stepV (i := 14) rfl hF (fun w hS => Y.move hF rfl) rfl fun a hF => ?_
         refine stepV_on (i := 15) rfl hF rfl rfl hbv_3 (fun w hS => Y.move hF rfl) rfl fun a hF => ?_
         refine stepV_on (i := 16) rfl hF rfl rfl hbv_3 (fun w hS => Y.neq hF rfl rfl) rfl fun a hF => ?_
         refine stepV (i := 17) rfl hF (fun w hS => Y.pick_f hF rfl hbv_3 rfl) rfl fun a hF => ?_
         refine stepV (i := 18) rfl hF (fun w hS => Y.move hF rfl) rfl fun a hF => ?_
         refine stepV_on (i := 19) rfl hF rfl rfl hbv_4 (fun w hS => Y.move hF rfl) rfl fun a hF => ?_
         refine stepV_on (i := 20) rfl hF rfl rfl hbv_4 (fun w hS => Y.neq hF rfl rfl) rfl fun a hF => ?_
         refine stepV (i := 21) rfl hF (fun w hS => Y.pick_f hF rfl hbv_4 rfl) rfl fun a hF => ?_
         refine stepV (i := 22) rfl hF (fun w hS => Y.move hF rfl) rfl fun a hF => ?_
         refine stepV_on (i := 23) rfl hF rfl rfl hbv_5 (fun w hS => Y.loadNL 1 sz_34 hF rfl hS rfl rfl rfl) rfl fun a hF => ?_
         refine oneV (i := 24) rfl ?_ trivial
         refine guard_on hF rfl rfl hbv_5 ?_
         refine O.callP (us := [.int .i64 98, .int .i64 105]) ca_37 hF hS (remontoirref00_To_ok hS.stab 98 105 rv_13 hx_13) rfl rfl fun a w hF hS => ?_
         refine nil (then_n ⟨hS.weak (ms := [(1, .cells b [.int .i64 rv_1.1.Low, .int .i64 rv_1.1.High] 34), (2, .cells b_1 [.int .i64 rv_3.1.Low, .int .i64 rv_3.1.High] 34), (3, .cells b_2 [.int .i64 rv_5.1.Low, .int .i64 rv_5.1.High] 34)]) ⟨rfl, rfl, rfl, trivial⟩, ?_⟩)
         refine stepV_on (i := 25) rfl hF rfl rfl hbv_5 (fun w hS => Y.nest (fun w => eqT_34.equal (by decide) (l := [rv_1.1.Low, rv_1.1.High]) (m := [rv_13.Low, rv_13.High]) rfl rfl) (fun w => run_eqGuard_agg _ _ _ _ _ _ _ eg_34) hF rfl rfl) rfl fun a hF => ?_
         refine stepV (i := 26) rfl hF (fun w hS => Y.pick_f hF rfl hbv_5 rfl) rfl fun a hF => ?_
         refine stepV (i := 27) rfl hF (fun w hS => Y.move hF rfl) rfl fun a hF => ?_
         refine stepV_off (i := 28) rfl hF rfl rfl hbv_6 rfl fun a hF => ?_
         refine oneV (i := 29) rfl ?_ trivial
         refine guard_off hF rfl rfl hbv_6 rfl fun a hF => nil (then_n ⟨hS.weak (ms := [(1, .cells b [.int .i64 rv_1.1.Low, .int .i64 rv_1.1.High] 34), (2, .cells b_1 [.int .i64 rv_3.1.Low, .int .i64 rv_3.1.High] 34), (3, .cells b_2 [.int .i64 rv_5.1.Low, .int .i64 rv_5.1.High] 34)]) ⟨rfl, rfl, rfl, trivial⟩, ?_⟩)
         refine stepV_off (i := 30) rfl hF rfl rfl hbv_6 rfl fun a hF => ?_
         refine stepV (i := 31) rfl hF (fun w hS => Y.pick_t hF rfl hbv_6 rfl) rfl fun a hF => ?_
         refine stepV (i := 32) rfl hF (fun w hS => Y.move hF rfl) rfl fun a hF => ?_
         refine stepV_off (i := 33) rfl hF rfl rfl rfl rfl fun a hF => ?_
         refine oneV (i := 34) rfl ?_ trivial
         refine guard_off hF rfl rfl rfl rfl fun a hF => nil (then_n ⟨hS.weak (ms := [(1, .cells b [.int .i64 rv_1.1.Low, .int .i64 rv_1.1.High] 34), (2, .cells b_1 [.int .i64 rv_3.1.Low, .int .i64 rv_3.1.High] 34), (3, .cells b_2 [.int .i64 rv_5.1.Low, .int .i64 rv_5.1.High] 34)]) ⟨rfl, rfl, rfl, trivial⟩, ?_⟩)
         refine stepV_off (i := 35) rfl hF rfl rfl rfl rfl fun a hF => ?_
         refine stepV (i := 36) rfl hF (fun w hS => Y.pick_t hF rfl rfl rfl) rfl fun a hF => ?_
         refine stepV (i := 37) rfl hF (fun w hS => Y.move hF rfl) rfl fun a hF => ?_
         refine stepV_off (i := 38) rfl hF rfl rfl rfl rfl fun a hF => ?_
         refine oneV (i := 39) rfl ?_ trivial
         refine guard_off hF rfl rfl rfl rfl fun a hF => nil (then_n ⟨hS.weak (ms := [(1, .cells b [.int .i64 rv_1.1.Low, .int .i64 rv_1.1.High] 34), (2, .cells b_1 [.int .i64 rv_3.1.Low, .int .i64 rv_3.1.High] 34), (3, .cells b_2 [.int .i64 rv_5.1.Low, .int .i64 rv_5.1.High] 34)]) ⟨rfl, rfl, rfl, trivial⟩, ?_⟩)
         refine oneV (i := 40) rfl ?_ trivial
         refine guard_off hF rfl rfl rfl rfl fun a hF => nil (then_n ⟨hS.weak (ms := [(1, .cells b [.int .i64 rv_1.1.Low, .int .i64 rv_1.1.High] 34), (2, .cells b_1 [.int .i64 rv_3.1.Low, .int .i64 rv_3.1.High] 34), (3, .cells b_2 [.int .i64 rv_5.1.Low, .int .i64 rv_5.1.High] 34)]) ⟨rfl, rfl, rfl, trivial⟩, ?_⟩)
         refine stepV_off (i := 41) rfl hF rfl rfl rfl rfl fun a hF => ?_
         refine stepV (i := 42) rfl hF (fun w hS => Y.pick_t hF rfl rfl rfl) rfl fun a hF => ?_
         exact toTailV ⟨Dv_8, Stab.le.refl _, hF.weak ⟨rfl, rfl, rfl, rfl, rfl, rfl, trivial⟩, hS.weak ⟨rfl, rfl, rfl, trivial⟩⟩
        ·skip
         replace ht_6 := cond_f ht_6 hbv_6
         obtain ⟨rv_14, hx_14, ht_6⟩ := bind_some ht_6
         obtain rfl := some_inj ht_6
         rcases bcases (!([rv_3.1.Low, rv_3.1.High] == [rv_14.Low, rv_14.High])) with hbv_7 | hbv_7
         ·skip
          replace ht_7 := cond_t ht_7 hbv_7
          obtain rfl := some_inj ht_7
          replace ht_8 := cond_t ht_8 rfl
          obtain rfl := some_inj ht_8
          refine stepV (i := 0) rfl hF (fun w hS => Y.move hF rfl) rfl fun a hF => ?_
          refine stepV (i := 1) rfl hF (fun w hS => Y.neq hF rfl rfl) rfl fun a hF => ?_
          refine stepV (i := 2) rfl hF (fun w hS => Y.move hF rfl) rfl fun a hF => ?_
          refine stepV_on (i := 3) rfl hF rfl rfl hbv (fun w hS => Y.move hF rfl) rfl fun a hF => ?_
          refine stepV_on (i := 4) rfl hF rfl rfl hbv (fun w hS => Y.neq hF rfl rfl) rfl fun a hF => ?_
          refine stepV (i := 5) rfl hF (fun w hS => Y.pick_f hF rfl hbv rfl) rfl fun a hF => ?_
          refine stepV (i := 6) rfl hF (fun w hS => Y.move hF rfl) rfl fun a hF => ?_
          refine stepV_on (i := 7) rfl hF rfl rfl hbv_1 (fun w hS => Y.move hF rfl) rfl fun a hF => ?_
          refine stepV_on (i := 8) rfl hF rfl rfl hbv_1 (fun w hS => Y.neq hF rfl rfl) rfl fun a hF => ?_
          refine stepV (i := 9) rfl hF (fun w hS => Y.pick_f hF rfl hbv_1 rfl) rfl fun a hF => ?_
          refine stepV (i := 10) rfl hF (fun w hS => Y.move hF rfl) rfl fun a hF => ?_
          refine stepV_on (i := 11) rfl hF rfl rfl hbv_2 (fun w hS => Y.move hF rfl) rfl fun a hF => ?_
          refine stepV_on (i := 12) rfl hF rfl rfl hbv_2 (fun w hS => Y.neq hF rfl rfl) rfl fun a hF => ?_
          refine stepV (i := 13) rfl hF (fun w hS => Y.pick_f hF rfl hbv_2 rfl) rfl fun a hF => ?_
          refine stepV (i := 14) rfl hF (fun w hS => Y.move hF rfl) rfl fun a hF => ?_
          refine stepV_on (i := 15) rfl hF rfl rfl hbv_3 (fun w hS => Y.move hF rfl) rfl fun a hF => ?_
          refine stepV_on (i := 16) rfl hF rfl rfl hbv_3 (fun w hS => Y.neq hF rfl rfl) rfl fun a hF => ?_
          refine stepV (i := 17) rfl hF (fun w hS => Y.pick_f hF rfl hbv_3 rfl) rfl fun a hF => ?_
          refine stepV (i := 18) rfl hF (fun w hS => Y.move hF rfl) rfl fun a hF => ?_
          refine stepV_on (i := 19) rfl hF rfl rfl hbv_4 (fun w hS => Y.move hF rfl) rfl fun a hF => ?_
          refine stepV_on (i := 20) rfl hF rfl rfl hbv_4 (fun w hS => Y.neq hF rfl rfl) rfl fun a hF => ?_
          refine stepV (i := 21) rfl hF (fun w hS => Y.pick_f hF rfl hbv_4 rfl) rfl fun a hF => ?_
          refine stepV (i := 22) rfl hF (fun w hS => Y.move hF rfl) rfl fun a hF => ?_
          refine stepV_on (i := 23) rfl hF rfl rfl hbv_5 (fun w hS => Y.loadNL 1 sz_34 hF rfl hS rfl rfl rfl) rfl fun a hF => ?_
          refine oneV (i := 24) rfl ?_ trivial
          refine guard_on hF rfl rfl hbv_5 ?_
          refine O.callP (us := [.int .i64 98, .int .i64 105]) ca_37 hF hS (remontoirref00_To_ok hS.stab 98 105 rv_13 hx_13) rfl rfl fun a w hF hS => ?_
          refine nil (then_n ⟨hS.weak (ms := [(1, .cells b [.int .i64 rv_1.1.Low, .int .i64 rv_1.1.High] 34), (2, .cells b_1 [.int .i64 rv_3.1.Low, .int .i64 rv_3.1.High] 34), (3, .cells b_2 [.int .i64 rv_5.1.Low, .int .i64 rv_5.1.High] 34)]) ⟨rfl, rfl, rfl, trivial⟩, ?_⟩)
          refine stepV_on (i := 25) rfl hF rfl rfl hbv_5 (fun w hS => Y.nest (fun w => eqT_34.equal (by decide) (l := [rv_1.1.Low, rv_1.1.High]) (m := [rv_13.Low, rv_13.High]) rfl rfl) (fun w => run_eqGuard_agg _ _ _ _ _ _ _ eg_34) hF rfl rfl) rfl fun a hF => ?_
          refine stepV (i := 26) rfl hF (fun w hS => Y.pick_f hF rfl hbv_5 rfl) rfl fun a hF => ?_
          refine stepV (i := 27) rfl hF (fun w hS => Y.move hF rfl) rfl fun a hF => ?_
          refine stepV_on (i := 28) rfl hF rfl rfl hbv_6 (fun w hS => Y.loadNL 2 sz_34 hF rfl hS rfl rfl rfl) rfl fun a hF => ?_
          refine oneV (i := 29) rfl ?_ trivial
          refine guard_on hF rfl rfl hbv_6 ?_
          refine O.callP (us := [.int .i64 34, .int .i64 50]) ca_37 hF hS (remontoirref00_To_ok hS.stab 34 50 rv_14 hx_14) rfl rfl fun a w hF hS => ?_
          refine nil (then_n ⟨hS.weak (ms := [(1, .cells b [.int .i64 rv_1.1.Low, .int .i64 rv_1.1.High] 34), (2, .cells b_1 [.int .i64 rv_3.1.Low, .int .i64 rv_3.1.High] 34), (3, .cells b_2 [.int .i64 rv_5.1.Low, .int .i64 rv_5.1.High] 34)]) ⟨rfl, rfl, rfl, trivial⟩, ?_⟩)
          refine stepV_on (i := 30) rfl hF rfl rfl hbv_6 (fun w hS => Y.nest (fun w => eqT_34.equal (by decide) (l := [rv_3.1.Low, rv_3.1.High]) (m := [rv_14.Low, rv_14.High]) rfl rfl) (fun w => run_eqGuard_agg _ _ _ _ _ _ _ eg_34) hF rfl rfl) rfl fun a hF => ?_
          refine stepV (i := 31) rfl hF (fun w hS => Y.pick_f hF rfl hbv_6 rfl) rfl fun a hF => ?_
          refine stepV (i := 32) rfl hF (fun w hS => Y.move hF rfl) rfl fun a hF => ?_
          refine stepV_off (i := 33) rfl hF rfl rfl hbv_7 rfl fun a hF => ?_
          refine oneV (i := 34) rfl ?_ trivial
          refine guard_off hF rfl rfl hbv_7 rfl fun a hF => nil (then_n ⟨hS.weak (ms := [(1, .cells b [.int .i64 rv_1.1.Low, .int .i64 rv_1.1.High] 34), (2, .cells b_1 [.int .i64 rv_3.1.Low, .int .i64 rv_3.1.High] 34), (3, .cells b_2 [.int .i64 rv_5.1.Low, .int .i64 rv_5.1.High] 34)]) ⟨rfl, rfl, rfl, trivial⟩, ?_⟩)
          refine stepV_off (i := 35) rfl hF rfl rfl hbv_7 rfl fun a hF => ?_
          refine stepV (i := 36) rfl hF (fun w hS => Y.pick_t hF rfl hbv_7 rfl) rfl fun a hF => ?_
          refine stepV (i := 37) rfl hF (fun w hS => Y.move hF rfl) rfl fun a hF => ?_
          refine stepV_off (i := 38) rfl hF rfl rfl rfl rfl fun a hF => ?_
          refine oneV (i := 39) rfl ?_ trivial
          refine guard_off hF rfl rfl rfl rfl fun a hF => nil (then_n ⟨hS.weak (ms := [(1, .cells b [.int .i64 rv_1.1.Low, .int .i64 rv_1.1.High] 34), (2, .cells b_1 [.int .i64 rv_3.1.Low, .int .i64 rv_3.1.High] 34), (3, .cells b_2 [.int .i64 rv_5.1.Low, .int .i64 rv_5.1.High] 34)]) ⟨rfl, rfl, rfl, trivial⟩, ?_⟩)
          refine oneV (i := 40) rfl ?_ trivial
          refine guard_off hF rfl rfl rfl rfl fun a hF => nil (then_n ⟨hS.weak (ms := [(1, .cells b [.int .i64 rv_1.1.Low, .int .i64 rv_1.1.High] 34), (2, .cells b_1 [.int .i64 rv_3.1.Low, .int .i64 rv_3.1.High] 34), (3, .cells b_2 [.int .i64 rv_5.1.Low, .int .i64 rv_5.1.High] 34)]) ⟨rfl, rfl, rfl, trivial⟩, ?_⟩)
          refine stepV_off (i := 41) rfl hF rfl rfl rfl rfl fun a hF => ?_
          refine stepV (i := 42) rfl hF (fun w hS => Y.pick_t hF rfl rfl rfl) rfl fun a hF => ?_
          exact toTailV ⟨Dv_8, Stab.le.refl _, hF.weak ⟨rfl, rfl, rfl, rfl, rfl, rfl, trivial⟩, hS.weak ⟨rfl, rfl, rfl, trivial⟩⟩
         ·skip
          replace ht_7 := cond_f ht_7 hbv_7
          obtain ⟨rv_15, hx_15, ht_7⟩ := bind_some ht_7
          obtain rfl := some_inj ht_7
          rcases bcases (!([rv_5.1.Low, rv_5.1.High] == [rv_15.Low, rv_15.High])) with hbv_8 | hbv_8
          ·skip
           replace ht_8 := cond_t ht_8 hbv_8
           obtain rfl := some_inj ht_8
           refine stepV (i := 0) rfl hF (fun w hS => Y.move hF rfl) rfl fun a hF => ?_
           refine stepV (i := 1) rfl hF (fun w hS => Y.neq hF rfl rfl) rfl fun a hF => ?_
           refine stepV (i := 2) rfl hF (fun w hS => Y.move hF rfl) rfl fun a hF => ?_
           refine stepV_on (i := 3) rfl hF rfl rfl hbv (fun w hS => Y.move hF rfl) rfl fun a hF => ?_
           refine stepV_on (i := 4) rfl hF rfl rfl hbv (fun w hS => Y.neq hF rfl rfl) rfl fun a hF => ?_
           refine stepV (i := 5) rfl hF (fun w hS => Y.pick_f hF rfl hbv rfl) rfl fun a hF => ?_
           refine stepV (i := 6) rfl hF (fun w hS => Y.move hF rfl) rfl fun a hF => ?_
           refine stepV_on (i := 7) rfl hF rfl rfl hbv_1 (fun w hS => Y.move hF rfl) rfl fun a hF => ?_
           refine stepV_on (i := 8) rfl hF rfl rfl hbv_1 (fun w hS => Y.neq hF rfl rfl) rfl fun a hF => ?_
           refine stepV (i := 9) rfl hF (fun w hS => Y.pick_f hF rfl hbv_1 rfl) rfl fun a hF => ?_
           refine stepV (i := 10) rfl hF (fun w hS => Y.move hF rfl) rfl fun a hF => ?_
           refine stepV_on (i := 11) rfl hF rfl rfl hbv_2 (fun w hS => Y.move hF rfl) rfl fun a hF => ?_
           refine stepV_on (i := 12) rfl hF rfl rfl hbv_2 (fun w hS => Y.neq hF rfl rfl) rfl fun a hF => ?_
           refine stepV (i := 13) rfl hF (fun w hS => Y.pick_f hF rfl hbv_2 rfl) rfl fun a hF => ?_
           refine stepV (i := 14) rfl hF (fun w hS => Y.move hF rfl) rfl fun a hF => ?_
           refine stepV_on (i := 15) rfl hF rfl rfl hbv_3 (fun w hS => Y.move hF rfl) rfl fun a hF => ?_
           refine stepV_on (i := 16) rfl hF rfl rfl hbv_3 (fun w hS => Y.neq hF rfl rfl) rfl fun a hF => ?_
           refine stepV (i := 17) rfl hF (fun w hS => Y.pick_f hF rfl hbv_3 rfl) rfl fun a hF => ?_
           refine stepV (i := 18) rfl hF (fun w hS => Y.move hF rfl) rfl fun a hF => ?_
           refine stepV_on (i := 19) rfl hF rfl rfl hbv_4 (fun w hS => Y.move hF rfl) rfl fun a hF => ?_
           refine stepV_on (i := 20) rfl hF rfl rfl hbv_4 (fun w hS => Y.neq hF rfl rfl) rfl fun a hF => ?_
           refine stepV (i := 21) rfl hF (fun w hS => Y.pick_f hF rfl hbv_4 rfl) rfl fun a hF => ?_
           refine stepV (i := 22) rfl hF (fun w hS => Y.move hF rfl) rfl fun a hF => ?_
           refine stepV_on (i := 23) rfl hF rfl rfl hbv_5 (fun w hS => Y.loadNL 1 sz_34 hF rfl hS rfl rfl rfl) rfl fun a hF => ?_
           refine oneV (i := 24) rfl ?_ trivial
           refine guard_on hF rfl rfl hbv_5 ?_
           refine O.callP (us := [.int .i64 98, .int .i64 105]) ca_37 hF hS (remontoirref00_To_ok hS.stab 98 105 rv_13 hx_13) rfl rfl fun a w hF hS => ?_
           refine nil (then_n ⟨hS.weak (ms := [(1, .cells b [.int .i64 rv_1.1.Low, .int .i64 rv_1.1.High] 34), (2, .cells b_1 [.int .i64 rv_3.1.Low, .int .i64 rv_3.1.High] 34), (3, .cells b_2 [.int .i64 rv_5.1.Low, .int .i64 rv_5.1.High] 34)]) ⟨rfl, rfl, rfl, trivial⟩, ?_⟩)
           refine stepV_on (i := 25) rfl hF rfl rfl hbv_5 (fun w hS => Y.nest (fun w => eqT_34.equal (by decide) (l := [rv_1.1.Low, rv_1.1.High]) (m := [rv_13.Low, rv_13.High]) rfl rfl) (fun w => run_eqGuard_agg _ _ _ _ _ _ _ eg_34) hF rfl rfl) rfl fun a hF => ?_
           refine stepV (i := 26) rfl hF (fun w hS => Y.pick_f hF rfl hbv_5 rfl) rfl fun a hF => ?_
           refine stepV (i := 27) rfl hF (fun w hS => Y.move hF rfl) rfl fun a hF => ?_
           refine stepV_on (i := 28) rfl hF rfl rfl hbv_6 (fun w hS => Y.loadNL 2 sz_34 hF rfl hS rfl rfl rfl) rfl fun a hF => ?_
           refine oneV (i := 29) rfl ?_ trivial
           refine guard_on hF rfl rfl hbv_6 ?_
           refine O.callP (us := [.int .i64 34, .int .i64 50]) ca_37 hF hS (remontoirref00_To_ok hS.stab 34 50 rv_14 hx_14) rfl rfl fun a w hF hS => ?_
           refine nil (then_n ⟨hS.weak (ms := [(1, .cells b [.int .i64 rv_1.1.Low, .int .i64 rv_1.1.High] 34), (2, .cells b_1 [.int .i64 rv_3.1.Low, .int .i64 rv_3.1.High] 34), (3, .cells b_2 [.int .i64 rv_5.1.Low, .int .i64 rv_5.1.High] 34)]) ⟨rfl, rfl, rfl, trivial⟩, ?_⟩)
           refine stepV_on (i := 30) rfl hF rfl rfl hbv_6 (fun w hS => Y.nest (fun w => eqT_34.equal (by decide) (l := [rv_3.1.Low, rv_3.1.High]) (m := [rv_14.Low, rv_14.High]) rfl rfl) (fun w => run_eqGuard_agg _ _ _ _ _ _ _ eg_34) hF rfl rfl) rfl fun a hF => ?_
           refine stepV (i := 31) rfl hF (fun w hS => Y.pick_f hF rfl hbv_6 rfl) rfl fun a hF => ?_
           refine stepV (i := 32) rfl hF (fun w hS => Y.move hF rfl) rfl fun a hF => ?_
           refine stepV_on (i := 33) rfl hF rfl rfl hbv_7 (fun w hS => Y.loadNL 3 sz_34 hF rfl hS rfl rfl rfl) rfl fun a hF => ?_
           refine oneV (i := 34) rfl ?_ trivial
           refine guard_on hF rfl rfl hbv_7 ?_
           refine O.callP (us := [.int .i64 (-60), .int .i64 60]) ca_37 hF hS (remontoirref00_To_ok hS.stab (-60) 60 rv_15 hx_15) rfl rfl fun a w hF hS => ?_
           refine nil (then_n ⟨hS.weak (ms := [(1, .cells b [.int .i64 rv_1.1.Low, .int .i64 rv_1.1.High] 34), (2, .cells b_1 [.int .i64 rv_3.1.Low, .int .i64 rv_3.1.High] 34), (3, .cells b_2 [.int .i64 rv_5.1.Low, .int .i64 rv_5.1.High] 34)]) ⟨rfl, rfl, rfl, trivial⟩, ?_⟩)
           refine stepV_on (i := 35) rfl hF rfl rfl hbv_7 (fun w hS => Y.nest (fun w => eqT_34.equal (by decide) (l := [rv_5.1.Low, rv_5.1.High]) (m := [rv_15.Low, rv_15.High]) rfl rfl) (fun w => run_eqGuard_agg _ _ _ _ _ _ _ eg_34) hF rfl rfl) rfl fun a hF => ?_
           refine stepV (i := 36) rfl hF (fun w hS => Y.pick_f hF rfl hbv_7 rfl) rfl fun a hF => ?_
           refine stepV (i := 37) rfl hF (fun w hS => Y.move hF rfl) rfl fun a hF => ?_
           refine stepV_off (i := 38) rfl hF rfl rfl hbv_8 rfl fun a hF => ?_
           refine oneV (i := 39) rfl ?_ trivial
           refine guard_off hF rfl rfl hbv_8 rfl fun a hF => nil (then_n ⟨hS.weak (ms := [(1, .cells b [.int .i64 rv_1.1.Low, .int .i64 rv_1.1.High] 34), (2, .cells b_1 [.int .i64 rv_3.1.Low, .int .i64 rv_3.1.High] 34), (3, .cells b_2 [.int .i64 rv_5.1.Low, .int .i64 rv_5.1.High] 34)]) ⟨rfl, rfl, rfl, trivial⟩, ?_⟩)
           refine oneV (i := 40) rfl ?_ trivial
           refine guard_off hF rfl rfl hbv_8 rfl fun a hF => nil (then_n ⟨hS.weak (ms := [(1, .cells b [.int .i64 rv_1.1.Low, .int .i64 rv_1.1.High] 34), (2, .cells b_1 [.int .i64 rv_3.1.Low, .int .i64 rv_3.1.High] 34), (3, .cells b_2 [.int .i64 rv_5.1.Low, .int .i64 rv_5.1.High] 34)]) ⟨rfl, rfl, rfl, trivial⟩, ?_⟩)
           refine stepV_off (i := 41) rfl hF rfl rfl hbv_8 rfl fun a hF => ?_
           refine stepV (i := 42) rfl hF (fun w hS => Y.pick_t hF rfl hbv_8 rfl) rfl fun a hF => ?_
           exact toTailV ⟨Dv_8, Stab.le.refl _, hF.weak ⟨rfl, rfl, rfl, rfl, rfl, rfl, trivial⟩, hS.weak ⟨rfl, rfl, rfl, trivial⟩⟩
          ·skip
           replace ht_8 := cond_f ht_8 hbv_8
           obtain ⟨rv_16, hx_16, ht_8⟩ := bind_some ht_8
           obtain rfl := some_inj ht_8
           refine stepV (i := 0) rfl hF (fun w hS => Y.move hF rfl) rfl fun a hF => ?_
           refine stepV (i := 1) rfl hF (fun w hS => Y.neq hF rfl rfl) rfl fun a hF => ?_
           refine stepV (i := 2) rfl hF (fun w hS => Y.move hF rfl) rfl fun a hF => ?_
           refine stepV_on (i := 3) rfl hF rfl rfl hbv (fun w hS => Y.move hF rfl) rfl fun a hF => ?_
           refine stepV_on (i := 4) rfl hF rfl rfl hbv (fun w hS => Y.neq hF rfl rfl) rfl fun a hF => ?_
           refine stepV (i := 5) rfl hF (fun w hS => Y.pick_f hF rfl hbv rfl) rfl fun a hF => ?_
           refine stepV (i := 6) rfl hF (fun w hS => Y.move hF rfl) rfl fun a hF => ?_
           refine stepV_on (i := 7) rfl hF rfl rfl hbv_1 (fun w hS => Y.move hF rfl) rfl fun a hF => ?_
           refine stepV_on (i := 8) rfl hF rfl rfl hbv_1 (fun w hS => Y.neq hF rfl rfl) rfl fun a hF => ?_
           refine stepV (i := 9) rfl hF (fun w hS => Y.pick_f hF rfl hbv_1 rfl) rfl fun a hF => ?_
           refine stepV (i := 10) rfl hF (fun w hS => Y.move hF rfl) rfl fun a hF => ?_
           refine stepV_on (i := 11) rfl hF rfl rfl hbv_2 (fun w hS => Y.move hF rfl) rfl fun a hF => ?_
           refine stepV_on (i := 12) rfl hF rfl rfl hbv_2 (fun w hS => Y.neq hF rfl rfl) rfl fun a hF => ?_
           refine stepV (i := 13) rfl hF (fun w hS => Y.pick_f hF rfl hbv_2 rfl) rfl fun a hF => ?_
           refine stepV (i := 14) rfl hF (fun w hS => Y.move hF rfl) rfl fun a hF => ?_
           refine stepV_on (i := 15) rfl hF rfl rfl hbv_3 (fun w hS => Y.move hF rfl) rfl fun a hF => ?_
           refine stepV_on (i := 16) rfl hF rfl rfl hbv_3 (fun w hS => Y.neq hF rfl rfl) rfl fun a hF => ?_
           refine stepV (i := 17) rfl hF (fun w hS => Y.pick_f hF rfl hbv_3 rfl) rfl fun a hF => ?_
           refine stepV (i := 18) rfl hF (fun w hS => Y.move hF rfl) rfl fun a hF => ?_
           refine stepV_on (i := 19) rfl hF rfl rfl hbv_4 (fun w hS => Y.move hF rfl) rfl fun a hF => ?_
           refine stepV_on (i := 20) rfl hF rfl rfl hbv_4 (fun w hS => Y.neq hF rfl rfl) rfl fun a hF => ?_
           refine stepV (i := 21) rfl hF (fun w hS => Y.pick_f hF rfl hbv_4 rfl) rfl fun a hF => ?_
           refine stepV (i := 22) rfl hF (fun w hS => Y.move hF rfl) rfl fun a hF => ?_
           refine stepV_on (i := 23) rfl hF rfl rfl hbv_5 (fun w hS => Y.loadNL 1 sz_34 hF rfl hS rfl rfl rfl) rfl fun a hF => ?_
           refine oneV (i := 24) rfl ?_ trivial
           refine guard_on hF rfl rfl hbv_5 ?_
           refine O.callP (us := [.int .i64 98, .int .i64 105]) ca_37 hF hS (remontoirref00_To_ok hS.stab 98 105 rv_13 hx_13) rfl rfl fun a w hF hS => ?_
           refine nil (then_n ⟨hS.weak (ms := [(1, .cells b [.int .i64 rv_1.1.Low, .int .i64 rv_1.1.High] 34), (2, .cells b_1 [.int .i64 rv_3.1.Low, .int .i64 rv_3.1.High] 34), (3, .cells b_2 [.int .i64 rv_5.1.Low, .int .i64 rv_5.1.High] 34)]) ⟨rfl, rfl, rfl, trivial⟩, ?_⟩)
           refine stepV_on (i := 25) rfl hF rfl rfl hbv_5 (fun w hS => Y.nest (fun w => eqT_34.equal (by decide) (l := [rv_1.1.Low, rv_1.1.High]) (m := [rv_13.Low, rv_13.High]) rfl rfl) (fun w => run_eqGuard_agg _ _ _ _ _ _ _ eg_34) hF rfl rfl) rfl fun a hF => ?_
           refine stepV (i := 26) rfl hF (fun w hS => Y.pick_f hF rfl hbv_5 rfl) rfl fun a hF => ?_
           refine stepV (i := 27) rfl hF (fun w hS => Y.move hF rfl) rfl fun a hF => ?_
           refine stepV_on (i := 28) rfl hF rfl rfl hbv_6 (fun w hS => Y.loadNL 2 sz_34 hF rfl hS rfl rfl rfl) rfl fun a hF => ?_
           refine oneV (i := 29) rfl ?_ trivial
           refine guard_on hF rfl rfl hbv_6 ?_
           refine O.callP (us := [.int .i64 34, .int .i64 50]) ca_37 hF hS (remontoirref00_To_ok hS.stab 34 50 rv_14 hx_14) rfl rfl fun a w hF hS => ?_
           refine nil (then_n ⟨hS.weak (ms := [(1, .cells b [.int .i64 rv_1.1.Low, .int .i64 rv_1.1.High] 34), (2, .cells b_1 [.int .i64 rv_3.1.Low, .int .i64 rv_3.1.High] 34), (3, .cells b_2 [.int .i64 rv_5.1.Low, .int .i64 rv_5.1.High] 34)]) ⟨rfl, rfl, rfl, trivial⟩, ?_⟩)
           refine stepV_on (i := 30) rfl hF rfl rfl hbv_6 (fun w hS => Y.nest (fun w => eqT_34.equal (by decide) (l := [rv_3.1.Low, rv_3.1.High]) (m := [rv_14.Low, rv_14.High]) rfl rfl) (fun w => run_eqGuard_agg _ _ _ _ _ _ _ eg_34) hF rfl rfl) rfl fun a hF => ?_
           refine stepV (i := 31) rfl hF (fun w hS => Y.pick_f hF rfl hbv_6 rfl) rfl fun a hF => ?_
           refine stepV (i := 32) rfl hF (fun w hS => Y.move hF rfl) rfl fun a hF => ?_
           refine stepV_on (i := 33) rfl hF rfl rfl hbv_7 (fun w hS => Y.loadNL 3 sz_34 hF rfl hS rfl rfl rfl) rfl fun a hF => ?_
           refine oneV (i := 34) rfl ?_ trivial
           refine guard_on hF rfl rfl hbv_7 ?_
           refine O.callP (us := [.int .i64 (-60), .int .i64 60]) ca_37 hF hS (remontoirref00_To_ok hS.stab (-60) 60 rv_15 hx_15) rfl rfl fun a w hF hS => ?_
           refine nil (then_n ⟨hS.weak (ms := [(1, .cells b [.int .i64 rv_1.1.Low, .int .i64 rv_1.1.High] 34), (2, .cells b_1 [.int .i64 rv_3.1.Low, .int .i64 rv_3.1.High] 34), (3, .cells b_2 [.int .i64 rv_5.1.Low, .int .i64 rv_5.1.High] 34)]) ⟨rfl, rfl, rfl, trivial⟩, ?_⟩)
           refine stepV_on (i := 35) rfl hF rfl rfl hbv_7 (fun w hS => Y.nest (fun w => eqT_34.equal (by decide) (l := [rv_5.1.Low, rv_5.1.High]) (m := [rv_15.Low, rv_15.High]) rfl rfl) (fun w => run_eqGuard_agg _ _ _ _ _ _ _ eg_34) hF rfl rfl) rfl fun a hF => ?_
           refine stepV (i := 36) rfl hF (fun w hS => Y.pick_f hF rfl hbv_7 rfl) rfl fun a hF => ?_
           refine stepV (i := 37) rfl hF (fun w hS => Y.move hF rfl) rfl fun a hF => ?_
           refine stepV_on (i := 38) rfl hF rfl rfl hbv_8 (fun w hS => Y.move hF rfl) rfl fun a hF => ?_
           refine oneV (i := 39) rfl ?_ trivial
           refine guard_on hF rfl rfl hbv_8 ?_
           have hr_1 : Reps C_int Dv_8 [1] [.int .i64 1] := Reps.cons (C := C_int) (x := 1) (c := [.int .i64 1]) (r := []) rfl (Reps.nil)
           refine O.buildSlice (E := 3) (C := C_int) (xs := [1]) (cs := [.int .i64 1]) (us := [.int .i64 1]) (parts := [(0, (.const (.int .i64 1)))]) 4 hF hS rfl (by kernel_rfl) hr_1 rfl rfl rfl fun p_22 c_22 a w hF hS => ?_
           refine nil (then_n ⟨hS.weak (ms := [(1, .cells b [.int .i64 rv_1.1.Low, .int .i64 rv_1.1.High] 34), (2, .cells b_1 [.int .i64 rv_3.1.Low, .int .i64 rv_3.1.High] 34), (3, .cells b_2 [.int .i64 rv_5.1.Low, .int .i64 rv_5.1.High] 34)]) ⟨rfl, rfl, rfl, trivial⟩, ?_⟩)
           refine oneV (i := 40) rfl ?_ trivial
           refine guard_on hF rfl rfl hbv_8 ?_
           obtain ⟨Dv_12, hlev_11, hs_22, hS⟩ := hS.freezeC (i := 4) (xs := [1]) rfl hr_1
           replace hG := hG.mono hlev_11
           replace hs := hs.mono hlev_11
           replace hs_1 := hs_1.mono hlev_11
           replace hs_2 := hs_2.mono hlev_11
           replace hs_3 := hs_3.mono hlev_11
           replace hs_4 := hs_4.mono hlev_11
           replace hs_5 := hs_5.mono hlev_11
           replace hs_6 := hs_6.mono hlev_11
           replace hs_7 := hs_7.mono hlev_11
           replace hs_8 := hs_8.mono hlev_11
           replace hs_9 := hs_9.mono hlev_11
           replace hs_10 := hs_10.mono hlev_11
           replace hs_11 := hs_11.mono hlev_11
           replace hs_12 := hs_12.mono hlev_11
           replace hs_13 := hs_13.mono hlev_11
           replace hs_14 := hs_14.mono hlev_11
           replace hs_15 := hs_15.mono hlev_11
           replace hs_16 := hs_16.mono hlev_11
           replace hs_17 := hs_17.mono hlev_11
           replace hs_18 := hs_18.mono hlev_11
           replace hs_19 := hs_19.mono hlev_11
           replace hs_20 := hs_20.mono hlev_11
           replace hr_1 := hr_1.mono hlev_11
           refine O.callP (us := [.slice p_17 rv_10.1.length c_17, .slice p_22 ([1]).length c_22]) ca_29 hF hS (remontoirref00_Alike_ok hS.stab rv_10.1 ([1]) hs_17 hs_22 rv_16 hx_16) rfl rfl fun a w hF hS => ?_
           refine nil (then_n ⟨(hS.weak (ms := [(1, .cells b [.int .i64 rv_1.1.Low, .int .i64 rv_1.1.High] 34), (2, .cells b_1 [.int .i64 rv_3.1.Low, .int .i64 rv_3.1.High] 34), (3, .cells b_2 [.int .i64 rv_5.1.Low, .int .i64 rv_5.1.High] 34)]) ⟨rfl, rfl, rfl, trivial⟩).weakD hlev_11 hle0, ?_⟩)
           refine stepV_on (i := 41) rfl hF rfl rfl hbv_8 (fun w hS => Y.not hF rfl) rfl fun a hF => ?_
           refine stepV (i := 42) rfl hF (fun w hS => Y.pick_f hF rfl hbv_8 rfl) rfl fun a hF => ?_
           exact toTailV ⟨Dv_12, hlev_11, hF.weak ⟨rfl, rfl, rfl, rfl, rfl, rfl, trivial⟩, hS.weak ⟨rfl, rfl, rfl, trivial⟩⟩
 rintro a w ⟨Dv_11, hle, hF, hS⟩
 have hlev_12 := hle
 replace hG := hG.mono hlev_12
 replace hs := hs.mono hlev_12
 replace hs_1 := hs_1.mono hlev_12
 replace hs_2 := hs_2.mono hlev_12
 replace hs_3 := hs_3.mono hlev_12
 replace hs_4 := hs_4.mono hlev_12
 replace hs_5 := hs_5.mono hlev_12
 replace hs_6 := hs_6.mono hlev_12
 replace hs_7 := hs_7.mono hlev_12
 replace hs_8 := hs_8.mono hlev_12
 replace hs_9 := hs_9.mono hlev_12
 replace hs_10 := hs_10.mono hlev_12
 replace hs_11 := hs_11.mono hlev_12
 replace hs_12 := hs_12.mono hlev_12
 replace hs_13 := hs_13.mono hlev_12
 replace hs_14 := hs_14.mono hlev_12
 replace hs_15 := hs_15.mono hlev_12
 replace hs_16 := hs_16.mono hlev_12
 replace hs_17 := hs_17.mono hlev_12
 replace hs_18 := hs_18.mono hlev_12
 replace hs_19 := hs_19.mono hlev_12
 replace hs_20 := hs_20.mono hlev_12
 refine step hF (Y.move hF rfl) rfl fun a hF => ?_
 refine join (N := 117) (rs := []) (w0 := w0) (D0 := D0) 3 (us := [(0, .bool false), (2, .int .i64 rv_1.2), (7, .slice p_12 rv_7.1.length c_12), (12, .int .i64 rv_12.2.1), (93, .bool (t_8 || (rv_12.1 != 1)))]) (ms := [(1, .cells b [.int .i64 rv_1.1.Low, .int .i64 rv_1.1.High] 34), (2, .cells b_1 [.int .i64 rv_3.1.Low, .int .i64 rv_3.1.High] 34), (3, .cells b_2 [.int .i64 rv_5.1.Low, .int .i64 rv_5.1.High] 34)]) (D' := Dv_11) ?_ ?_
 ·rcases bcases t_8 with hbv_9 | hbv_9
  ·-- true
   refine guard_off hF rfl rfl hbv_9 rfl fun a hF => ?_
   refine guard_off hF rfl rfl hbv_9 rfl fun a hF => ?_
   refine step hF (Y.pick_t hF rfl hbv_9 rfl) rfl fun a hF => ?_
   exact nil (then_n ⟨hF.weak ⟨rfl, rfl, rfl, rfl, (by rw [hbv_9]; rfl), trivial⟩, hS.weak ⟨rfl, rfl, rfl, trivial⟩⟩)
  ·-- false
   refine guard_on hF rfl rfl hbv_9 ?_
   refine step hF (Y.move hF rfl) rfl fun a hF => ?_
   refine guard_on hF rfl rfl hbv_9 ?_
   refine step hF (Y.neq hF rfl rfl) rfl fun a hF => ?_
   refine step hF (Y.pick_f hF rfl hbv_9 rfl) rfl fun a hF => ?_
   exact nil (then_n ⟨hF.weak ⟨rfl, rfl, rfl, rfl, (by rw [hbv_9]; rfl), trivial⟩, hS.weak ⟨rfl, rfl, rfl, trivial⟩⟩)
 intro a w hF hS
 refine step hF (Y.move hF rfl) rfl fun a hF => ?_
 refine join (N := 117) (rs := []) (w0 := w0) (D0 := D0) 3 (us := [(0, .bool false), (2, .int .i64 rv_1.2), (7, .slice p_12 rv_7.1.length c_12), (97, .bool ((t_8 || (rv_12.1 != 1)) || (rv_12.2.1 != 1)))]) (ms := [(1, .cells b [.int .i64 rv_1.1.Low, .int .i64 rv_1.1.High] 34), (2, .cells b_1 [.int .i64 rv_3.1.Low, .int .i64 rv_3.1.High] 34), (3, .cells b_2 [.int .i64 rv_5.1.Low, .int .i64 rv_5.1.High] 34)]) (D' := Dv_11) ?_ ?_
 ·rcases bcases (t_8 || (rv_12.1 != 1)) with hbv_10 | hbv_10
  ·-- true
   refine guard_off hF rfl rfl hbv_10 rfl fun a hF => ?_
   refine guard_off hF rfl rfl hbv_10 rfl fun a hF => ?_
   refine step hF (Y.pick_t hF rfl hbv_10 rfl) rfl fun a hF => ?_
   exact nil (then_n ⟨hF.weak ⟨rfl, rfl, rfl, (by rw [hbv_10]; rfl), trivial⟩, hS.weak ⟨rfl, rfl, rfl, trivial⟩⟩)
  ·-- false
   refine guard_on hF rfl rfl hbv_10 ?_
   refine step hF (Y.move hF rfl) rfl fun a hF => ?_
   refine guard_on hF rfl rfl hbv_10 ?_
   refine step hF (Y.neq hF rfl rfl) rfl fun a hF => ?_
   refine step hF (Y.pick_f hF rfl hbv_10 rfl) rfl fun a hF => ?_
   exact nil (then_n ⟨hF.weak ⟨rfl, rfl, rfl, (by rw [hbv_10]; rfl), trivial⟩, hS.weak ⟨rfl, rfl, rfl, trivial⟩⟩)
 intro a w hF hS
 refine nil (then_n ?_)
 refine cond_b hF rfl (fun hbv_11 => ?_) (fun hbv_11 => ?_)
 ·replace h := cond_t h hbv_11
  refine seq ?_
  refine region ?_
  refine step hF (Y.assign hF rfl) rfl fun a hF => ?_
  refine nil (then_n ?_)
  refine ret_ (then_r ?_)
  obtain rfl := some_inj h
  exact leaveP Tryd.results21 hF hS (.cons (.tmp rfl) .nil) .nil rfl
 ·replace h := cond_f h hbv_11
  refine skip_ (then_n ?_)
  refine seq ?_
  refine region ?_
  obtain ⟨rv_17, hx_17, h⟩ := bind_some h
  refine O.callS (us := [.slice none 0 0]) ca_42 hF hS (remontoirlaw02_cellar_ok hS.stab ([] : List BeatPair) SRc.nil rv_17 hx_17) rfl rfl fun v_9 Dv_13 a w hR_9 hlev_13 hF hS => ?_
  replace hG := hG.mono hlev_13
  replace hs := hs.mono hlev_13
  replace hs_1 := hs_1.mono hlev_13
  replace hs_2 := hs_2.mono hlev_13
  replace hs_3 := hs_3.mono hlev_13
  replace hs_4 := hs_4.mono hlev_13
  replace hs_5 := hs_5.mono hlev_13
  replace hs_6 := hs_6.mono hlev_13
  replace hs_7 := hs_7.mono hlev_13
  replace hs_8 := hs_8.mono hlev_13
  replace hs_9 := hs_9.mono hlev_13
  replace hs_10 := hs_10.mono hlev_13
  replace hs_11 := hs_11.mono hlev_13
  replace hs_12 := hs_12.mono hlev_13
  replace hs_13 := hs_13.mono hlev_13
  replace hs_14 := hs_14.mono hlev_13
  replace hs_15 := hs_15.mono hlev_13
  replace hs_16 := hs_16.mono hlev_13
  replace hs_17 := hs_17.mono hlev_13
  replace hs_18 := hs_18.mono hlev_13
  replace hs_19 := hs_19.mono hlev_13
  replace hs_20 := hs_20.mono hlev_13
  obtain ⟨p_23, c_23, p_24, c_24, p_25, c_25, rfl, hs_23, hs_24, hs_25⟩ := hR_9
  refine step hF (Y.move hF rfl) rfl fun a hF => ?_
  obtain ⟨rv_18, hx_18, h⟩ := bind_some h
  refine O.callP (us := [.agg #[.int .i64 rv_17.Hours, .slice p_23 rv_17.Rates.length c_23, .slice p_24 rv_17.Opens.length c_24, .slice p_25 rv_17.Pairs.length c_25], .slice p_12 rv_7.1.length c_12]) ca_15 hF hS (beat_IsTruth_ok hS.stab rv_17 rv_7.1 hs_23 hs_24 hs_25 hs_12 hG rv_18 hx_18) rfl rfl fun a w hF hS => ?_
  refine step hF (Y.move hF rfl) rfl fun a hF => ?_
  refine step hF (Y.extract hF rfl rfl) rfl fun a hF => ?_
  refine step hF (Y.extract hF rfl rfl) rfl fun a hF => ?_
  refine step hF (Y.assign hF rfl) rfl fun a hF => ?_
  refine step hF (Y.assign hF rfl) rfl fun a hF => ?_
  refine nil (then_n ?_)
  refine seq ?_
  refine region ?_
  refine step hF (Y.move hF rfl) rfl fun a hF => ?_
  refine step hF (Y.eql hF rfl rfl) rfl fun a hF => ?_
  refine step hF (Y.move hF rfl) rfl fun a hF => ?_
  refine join (N := 117) (rs := []) (w0 := w0) (D0 := D0) 2 (us := [(0, .bool false), (7, .slice p_12 rv_7.1.length c_12), (108, .bool ((rv_18.2 == 0) && rv_18.1))]) (ms := [(1, .cells b [.int .i64 rv_1.1.Low, .int .i64 rv_1.1.High] 34), (2, .cells b_1 [.int .i64 rv_3.1.Low, .int .i64 rv_3.1.High] 34), (3, .cells b_2 [.int .i64 rv_5.1.Low, .int .i64 rv_5.1.High] 34)]) (D' := Dv_13) ?_ ?_
  ·rcases bcases (rv_18.2 == 0) with hbv_12 | hbv_12
   ·-- true
    refine guard_on hF rfl rfl hbv_12 ?_
    refine step hF (Y.move hF rfl) rfl fun a hF => ?_
    refine step hF (Y.pick_t hF rfl hbv_12 rfl) rfl fun a hF => ?_
    exact nil (then_n ⟨hF.weak ⟨rfl, rfl, (by rw [hbv_12]; rfl), trivial⟩, hS.weak ⟨rfl, rfl, rfl, trivial⟩⟩)
   ·-- false
    refine guard_off hF rfl rfl hbv_12 rfl fun a hF => ?_
    refine step hF (Y.pick_f hF rfl hbv_12 rfl) rfl fun a hF => ?_
    exact nil (then_n ⟨hF.weak ⟨rfl, rfl, (by rw [hbv_12]; rfl), trivial⟩, hS.weak ⟨rfl, rfl, rfl, trivial⟩⟩)
  intro a w hF hS
  refine step hF (Y.move hF rfl) rfl fun a hF => ?_
  obtain ⟨t_9, ht_9, h⟩ := bind_some h
  refine join (N := 117) (rs := []) (w0 := w0) (D0 := D0) 7 (us := [(0, .bool false), (116, .bool t_9)]) (ms := [(1, .cells b [.int .i64 rv_1.1.Low, .int .i64 rv_1.1.High] 34), (2, .cells b_1 [.int .i64 rv_3.1.Low, .int .i64 rv_3.1.High] 34), (3, .cells b_2 [.int .i64 rv_5.1.Low, .int .i64 rv_5.1.High] 34)]) (D' := Dv_13) ?_ ?_
  ·rcases bcases ((rv_18.2 == 0) && rv_18.1) with hbv_13 | hbv_13
   ·-- true
    replace h := cond_t ht_9 hbv_13
    refine guard_on hF rfl rfl hbv_13 ?_
    refine step hF (Y.move hF rfl) rfl fun a hF => ?_
    obtain ⟨e, hx_19, h⟩ := bind_some h
    obtain ⟨b_3, o, hE, hY⟩ := Y.indexS (P := Tryd.prog) (C := (C_sl C_int)) (xs := rv_7.1) (T := 27) (x := (.tmp 110)) (y := (.const (.int .i64 2))) u_27 sz_44 hF rfl rfl (hs_12).1 hx_19
    obtain ⟨cc, hc, hcell⟩ := hE.open
    obtain ⟨p_26, c_26, rfl, hs_26⟩ := hc
    refine guard_on hF rfl rfl hbv_13 ?_
    refine step hF (hY) rfl fun a hF => ?_
    refine guard_on hF rfl rfl hbv_13 ?_
    refine step hF (Y.load1 sz_44 hF rfl (hcell _ hS.stab 0 _ rfl)) rfl fun a hF => ?_
    obtain ⟨e_1, hx_20, h⟩ := bind_some h
    obtain ⟨b_4, o_1, hE_1, hY_1⟩ := Y.indexS (P := Tryd.prog) (C := C_int) (xs := e) (T := 44) (x := (.tmp 112)) (y := (.const (.int .i64 1))) u_44 sz_3 hF rfl rfl (hs_26).1 hx_20
    obtain ⟨cc_1, hc_1, hcell_1⟩ := hE_1.open
    obtain rfl := hc_1
    refine guard_on hF rfl rfl hbv_13 ?_
    refine step hF (hY_1) rfl fun a hF => ?_
    refine guard_on hF rfl rfl hbv_13 ?_
    refine step hF (Y.load1 sz_3 hF rfl (hcell_1 _ hS.stab 0 _ rfl)) rfl fun a hF => ?_
    refine guard_on hF rfl rfl hbv_13 ?_
    refine step hF (Y.eql hF rfl rfl) rfl fun a hF => ?_
    refine step hF (Y.pick_t hF rfl hbv_13 rfl) rfl fun a hF => ?_
    obtain rfl := some_inj h
    exact nil (then_n ⟨hF.weak ⟨rfl, rfl, trivial⟩, hS.weak ⟨rfl, rfl, rfl, trivial⟩⟩)
   ·-- false
    replace h := cond_f ht_9 hbv_13
    refine guard_off hF rfl rfl hbv_13 rfl fun a hF => ?_
    refine guard_off hF rfl rfl hbv_13 rfl fun a hF => ?_
    refine guard_off hF rfl rfl hbv_13 rfl fun a hF => ?_
    refine guard_off hF rfl rfl hbv_13 rfl fun a hF => ?_
    refine guard_off hF rfl rfl hbv_13 rfl fun a hF => ?_
    refine guard_off hF rfl rfl hbv_13 rfl fun a hF => ?_
    refine step hF (Y.pick_f hF rfl hbv_13 rfl) rfl fun a hF => ?_
    obtain rfl := some_inj h
    exact nil (then_n ⟨hF.weak ⟨rfl, rfl, trivial⟩, hS.weak ⟨rfl, rfl, rfl, trivial⟩⟩)
  intro a w hF hS
  refine step hF (Y.assign hF rfl) rfl fun a hF => ?_
  refine nil (then_n ?_)
  refine ret_ ?_
  obtain rfl := some_inj h
  exact leaveP Tryd.results21 hF hS (.cons (.tmp rfl) .nil) .nil rfl

end Go.Proofs.YtpniidbbbhbglaaDoor.Rt
