/- Walks of the functions of this seat: what each Go function comes to, as a Lean function, and the proof. A law. Under no conditions. -/
import Derived.Test.YtpniidbbbhbglaaDoorC14L14a
set_option linter.unusedVariables false
set_option linter.unusedSimpArgs false
set_option maxRecDepth 100000
set_option maxHeartbeats 40000000
namespace Go.Proofs.YtpniidbbbhbglaaDoor.Rt
open Go Go.RowKit
theorem remontoirlaw02_BeatKnown_ok {w0 : World} {D0 : Stab} (hD : D0.on w0) (hG : Glob D0) (out : Bool) (h : remontoirlaw02_BeatKnown = some out) : Calls Tryd.prog 14 [].toArray w0 (RetP D0 w0 (.bool out)) := by
 refine enter _ 455 Tryd.func14 rfl Tryd.ntmps14 rfl fun a hF => ?_
 replace hF : Frm 455 [] [] a := hF
 have hS := St.start hD
 unfold remontoirlaw02_BeatKnown at h
 refine seq (region (step hF (Y.assign hF rfl) rfl fun a hF => nT (seq (region (step hF (Y.build (parts := []) (cs := #[iv 0, .slice none 0 0, .slice none 0 0, .slice none 0 0]) hF rfl (by kernel_rfl)) rfl fun a hF => ?_)))))
 replace h := bind_some h
 obtain ⟨rv, hx, h⟩ := h
 refine O.callM (us := [.slice none 0 0]) ca_42 hF (remontoirlaw02_cellar_keep hS.stab ([] : List BeatPair) SRc.nil rv hx) rfl rfl fun v Dv a w hK hlev hF => ?_
 replace hG := hG.mono hlev
 obtain ⟨p, c, cs, p_1, c_1, cs_1, p_2, c_2, cs_2, hS2_0, rfl, hr, hr_1, hr_2⟩ := hK
 replace hS := hS.join hS2_0
 replace hS := hS.move 1 900 rfl (by decide)
 replace hS := hS.move 2 901 rfl (by decide)
 replace hS := hS.move 3 902 rfl (by decide)
 replace hS := hS.weak (ms := [(1, .own p rv.Rates.length c cs 34 2), (2, .own p_1 rv.Opens.length c_1 cs_1 63 4), (3, .own p_2 rv.Pairs.length c_2 cs_2 61 5)]) (AL rfl)
 replace h := bind_some h
 obtain ⟨rv_1, hx_1, h⟩ := h
 refine O.callM (us := [.slice none 0 0]) ca_42 hF (remontoirlaw02_cellar_keep hS.stab ([] : List BeatPair) SRc.nil rv_1 hx_1) rfl rfl fun v_1 Dv_1 a w hK_1 hlev_1 hF => ?_
 replace hG := hG.mono hlev_1
 replace hr := hr.mono hlev_1
 replace hr_1 := hr_1.mono hlev_1
 replace hr_2 := hr_2.mono hlev_1
 obtain ⟨p_3, c_3, cs_3, p_4, c_4, cs_4, p_5, c_5, cs_5, hS2_1, rfl, hr_3, hr_4, hr_5⟩ := hK_1
 replace hS := hS.join hS2_1
 replace hS := hS.move 4 900 rfl (by decide)
 replace hS := hS.move 5 901 rfl (by decide)
 replace hS := hS.move 6 902 rfl (by decide)
 replace hS := hS.weak (ms := [(1, .own p rv.Rates.length c cs 34 2), (2, .own p_1 rv.Opens.length c_1 cs_1 63 4), (3, .own p_2 rv.Pairs.length c_2 cs_2 61 5), (4, .own p_3 rv_1.Rates.length c_3 cs_3 34 2), (5, .own p_4 rv_1.Opens.length c_4 cs_4 63 4), (6, .own p_5 rv_1.Pairs.length c_5 cs_5 61 5)]) (AL rfl)
 replace h := bind_some h
 obtain ⟨rv_2, hx_2, h⟩ := h
 refine O.callM (us := [.slice none 0 0]) ca_42 hF (remontoirlaw02_cellar_keep hS.stab ([] : List BeatPair) SRc.nil rv_2 hx_2) rfl rfl fun v_2 Dv_2 a w hK_2 hlev_2 hF => ?_
 replace hG := hG.mono hlev_2
 replace hr := hr.mono hlev_2
 replace hr_1 := hr_1.mono hlev_2
 replace hr_2 := hr_2.mono hlev_2
 replace hr_3 := hr_3.mono hlev_2
 replace hr_4 := hr_4.mono hlev_2
 replace hr_5 := hr_5.mono hlev_2
 obtain ⟨p_6, c_6, cs_6, p_7, c_7, cs_7, p_8, c_8, cs_8, hS2_2, rfl, hr_6, hr_7, hr_8⟩ := hK_2
 replace hS := hS.join hS2_2
 replace hS := hS.move 7 900 rfl (by decide)
 replace hS := hS.move 8 901 rfl (by decide)
 replace hS := hS.move 9 902 rfl (by decide)
 replace hS := hS.weak (ms := [(1, .own p rv.Rates.length c cs 34 2), (2, .own p_1 rv.Opens.length c_1 cs_1 63 4), (3, .own p_2 rv.Pairs.length c_2 cs_2 61 5), (4, .own p_3 rv_1.Rates.length c_3 cs_3 34 2), (5, .own p_4 rv_1.Opens.length c_4 cs_4 63 4), (6, .own p_5 rv_1.Pairs.length c_5 cs_5 61 5), (7, .own p_6 rv_2.Rates.length c_6 cs_6 34 2), (8, .own p_7 rv_2.Opens.length c_7 cs_7 63 4), (9, .own p_8 rv_2.Pairs.length c_8 cs_8 61 5)]) (AL rfl)
 replace h := bind_some h
 obtain ⟨rv_3, hx_3, h⟩ := h
 refine O.callM (us := [.slice none 0 0]) ca_42 hF (remontoirlaw02_cellar_keep hS.stab ([] : List BeatPair) SRc.nil rv_3 hx_3) rfl rfl fun v_3 Dv_3 a w hK_3 hlev_3 hF => ?_
 replace hG := hG.mono hlev_3
 replace hr := hr.mono hlev_3
 replace hr_1 := hr_1.mono hlev_3
 replace hr_2 := hr_2.mono hlev_3
 replace hr_3 := hr_3.mono hlev_3
 replace hr_4 := hr_4.mono hlev_3
 replace hr_5 := hr_5.mono hlev_3
 replace hr_6 := hr_6.mono hlev_3
 replace hr_7 := hr_7.mono hlev_3
 replace hr_8 := hr_8.mono hlev_3
 obtain ⟨p_9, c_9, cs_9, p_10, c_10, cs_10, p_11, c_11, cs_11, hS2_3, rfl, hr_9, hr_10, hr_11⟩ := hK_3
 replace hS := hS.join hS2_3
 replace hS := hS.move 10 900 rfl (by decide)
 replace hS := hS.move 11 901 rfl (by decide)
 replace hS := hS.move 12 902 rfl (by decide)
 replace hS := hS.weak (ms := [(1, .own p rv.Rates.length c cs 34 2), (2, .own p_1 rv.Opens.length c_1 cs_1 63 4), (3, .own p_2 rv.Pairs.length c_2 cs_2 61 5), (4, .own p_3 rv_1.Rates.length c_3 cs_3 34 2), (5, .own p_4 rv_1.Opens.length c_4 cs_4 63 4), (6, .own p_5 rv_1.Pairs.length c_5 cs_5 61 5), (7, .own p_6 rv_2.Rates.length c_6 cs_6 34 2), (8, .own p_7 rv_2.Opens.length c_7 cs_7 63 4), (9, .own p_8 rv_2.Pairs.length c_8 cs_8 61 5), (10, .own p_9 rv_3.Rates.length c_9 cs_9 34 2), (11, .own p_10 rv_3.Opens.length c_10 cs_10 63 4), (12, .own p_11 rv_3.Pairs.length c_11 cs_11 61 5)]) (AL rfl)
 replace h := bind_some h
 obtain ⟨rv_4, hx_4, h⟩ := h
 refine O.callM (us := [.slice none 0 0]) ca_42 hF (remontoirlaw02_cellar_keep hS.stab ([] : List BeatPair) SRc.nil rv_4 hx_4) rfl rfl fun v_4 Dv_4 a w hK_4 hlev_4 hF => ?_
 replace hG := hG.mono hlev_4
 replace hr := hr.mono hlev_4
 replace hr_1 := hr_1.mono hlev_4
 replace hr_2 := hr_2.mono hlev_4
 replace hr_3 := hr_3.mono hlev_4
 replace hr_4 := hr_4.mono hlev_4
 replace hr_5 := hr_5.mono hlev_4
 replace hr_6 := hr_6.mono hlev_4
 replace hr_7 := hr_7.mono hlev_4
 replace hr_8 := hr_8.mono hlev_4
 replace hr_9 := hr_9.mono hlev_4
 replace hr_10 := hr_10.mono hlev_4
 replace hr_11 := hr_11.mono hlev_4
 obtain ⟨p_12, c_12, cs_12, p_13, c_13, cs_13, p_14, c_14, cs_14, hS2_4, rfl, hr_12, hr_13, hr_14⟩ := hK_4
 replace hS := hS.join hS2_4
 replace hS := hS.move 13 900 rfl (by decide)
 replace hS := hS.move 14 901 rfl (by decide)
 replace hS := hS.move 15 902 rfl (by decide)
 replace hS := hS.weak (ms := [(1, .own p rv.Rates.length c cs 34 2), (2, .own p_1 rv.Opens.length c_1 cs_1 63 4), (3, .own p_2 rv.Pairs.length c_2 cs_2 61 5), (4, .own p_3 rv_1.Rates.length c_3 cs_3 34 2), (5, .own p_4 rv_1.Opens.length c_4 cs_4 63 4), (6, .own p_5 rv_1.Pairs.length c_5 cs_5 61 5), (7, .own p_6 rv_2.Rates.length c_6 cs_6 34 2), (8, .own p_7 rv_2.Opens.length c_7 cs_7 63 4), (9, .own p_8 rv_2.Pairs.length c_8 cs_8 61 5), (10, .own p_9 rv_3.Rates.length c_9 cs_9 34 2), (11, .own p_10 rv_3.Opens.length c_10 cs_10 63 4), (12, .own p_11 rv_3.Pairs.length c_11 cs_11 61 5), (13, .own p_12 rv_4.Rates.length c_12 cs_12 34 2), (14, .own p_13 rv_4.Opens.length c_13 cs_13 63 4), (15, .own p_14 rv_4.Pairs.length c_14 cs_14 61 5)]) (AL rfl)
 replace h := bind_some h
 obtain ⟨rv_5, hx_5, h⟩ := h
 refine O.callM (us := [.slice none 0 0]) ca_42 hF (remontoirlaw02_cellar_keep hS.stab ([] : List BeatPair) SRc.nil rv_5 hx_5) rfl rfl fun v_5 Dv_5 a w hK_5 hlev_5 hF => ?_
 replace hG := hG.mono hlev_5
 replace hr := hr.mono hlev_5
 replace hr_1 := hr_1.mono hlev_5
 replace hr_2 := hr_2.mono hlev_5
 replace hr_3 := hr_3.mono hlev_5
 replace hr_4 := hr_4.mono hlev_5
 replace hr_5 := hr_5.mono hlev_5
 replace hr_6 := hr_6.mono hlev_5
 replace hr_7 := hr_7.mono hlev_5
 replace hr_8 := hr_8.mono hlev_5
 replace hr_9 := hr_9.mono hlev_5
 replace hr_10 := hr_10.mono hlev_5
 replace hr_11 := hr_11.mono hlev_5
 replace hr_12 := hr_12.mono hlev_5
 replace hr_13 := hr_13.mono hlev_5
 replace hr_14 := hr_14.mono hlev_5
 obtain ⟨p_15, c_15, cs_15, p_16, c_16, cs_16, p_17, c_17, cs_17, hS2_5, rfl, hr_15, hr_16, hr_17⟩ := hK_5
 replace hS := hS.join hS2_5
 replace hS := hS.move 16 900 rfl (by decide)
 replace hS := hS.move 17 901 rfl (by decide)
 replace hS := hS.move 18 902 rfl (by decide)
 replace hS := hS.weak (ms := [(1, .own p rv.Rates.length c cs 34 2), (2, .own p_1 rv.Opens.length c_1 cs_1 63 4), (3, .own p_2 rv.Pairs.length c_2 cs_2 61 5), (4, .own p_3 rv_1.Rates.length c_3 cs_3 34 2), (5, .own p_4 rv_1.Opens.length c_4 cs_4 63 4), (6, .own p_5 rv_1.Pairs.length c_5 cs_5 61 5), (7, .own p_6 rv_2.Rates.length c_6 cs_6 34 2), (8, .own p_7 rv_2.Opens.length c_7 cs_7 63 4), (9, .own p_8 rv_2.Pairs.length c_8 cs_8 61 5), (10, .own p_9 rv_3.Rates.length c_9 cs_9 34 2), (11, .own p_10 rv_3.Opens.length c_10 cs_10 63 4), (12, .own p_11 rv_3.Pairs.length c_11 cs_11 61 5), (13, .own p_12 rv_4.Rates.length c_12 cs_12 34 2), (14, .own p_13 rv_4.Opens.length c_13 cs_13 63 4), (15, .own p_14 rv_4.Pairs.length c_14 cs_14 61 5), (16, .own p_15 rv_5.Rates.length c_15 cs_15 34 2), (17, .own p_16 rv_5.Opens.length c_16 cs_16 63 4), (18, .own p_17 rv_5.Pairs.length c_17 cs_17 61 5)]) (AL rfl)
 replace h := bind_some h
 obtain ⟨rv_6, hx_6, h⟩ := h
 refine O.callM (us := [.slice none 0 0]) ca_42 hF (remontoirlaw02_cellar_keep hS.stab ([] : List BeatPair) SRc.nil rv_6 hx_6) rfl rfl fun v_6 Dv_6 a w hK_6 hlev_6 hF => ?_
 replace hG := hG.mono hlev_6
 replace hr := hr.mono hlev_6
 replace hr_1 := hr_1.mono hlev_6
 replace hr_2 := hr_2.mono hlev_6
 replace hr_3 := hr_3.mono hlev_6
 replace hr_4 := hr_4.mono hlev_6
 replace hr_5 := hr_5.mono hlev_6
 replace hr_6 := hr_6.mono hlev_6
 replace hr_7 := hr_7.mono hlev_6
 replace hr_8 := hr_8.mono hlev_6
 replace hr_9 := hr_9.mono hlev_6
 replace hr_10 := hr_10.mono hlev_6
 replace hr_11 := hr_11.mono hlev_6
 replace hr_12 := hr_12.mono hlev_6
 replace hr_13 := hr_13.mono hlev_6
 replace hr_14 := hr_14.mono hlev_6
 replace hr_15 := hr_15.mono hlev_6
 replace hr_16 := hr_16.mono hlev_6
 replace hr_17 := hr_17.mono hlev_6
 obtain ⟨p_18, c_18, cs_18, p_19, c_19, cs_19, p_20, c_20, cs_20, hS2_6, rfl, hr_18, hr_19, hr_20⟩ := hK_6
 replace hS := hS.join hS2_6
 replace hS := hS.move 19 900 rfl (by decide)
 replace hS := hS.move 20 901 rfl (by decide)
 replace hS := hS.move 21 902 rfl (by decide)
 replace hS := hS.weak (ms := [(1, .own p rv.Rates.length c cs 34 2), (2, .own p_1 rv.Opens.length c_1 cs_1 63 4), (3, .own p_2 rv.Pairs.length c_2 cs_2 61 5), (4, .own p_3 rv_1.Rates.length c_3 cs_3 34 2), (5, .own p_4 rv_1.Opens.length c_4 cs_4 63 4), (6, .own p_5 rv_1.Pairs.length c_5 cs_5 61 5), (7, .own p_6 rv_2.Rates.length c_6 cs_6 34 2), (8, .own p_7 rv_2.Opens.length c_7 cs_7 63 4), (9, .own p_8 rv_2.Pairs.length c_8 cs_8 61 5), (10, .own p_9 rv_3.Rates.length c_9 cs_9 34 2), (11, .own p_10 rv_3.Opens.length c_10 cs_10 63 4), (12, .own p_11 rv_3.Pairs.length c_11 cs_11 61 5), (13, .own p_12 rv_4.Rates.length c_12 cs_12 34 2), (14, .own p_13 rv_4.Opens.length c_13 cs_13 63 4), (15, .own p_14 rv_4.Pairs.length c_14 cs_14 61 5), (16, .own p_15 rv_5.Rates.length c_15 cs_15 34 2), (17, .own p_16 rv_5.Opens.length c_16 cs_16 63 4), (18, .own p_17 rv_5.Pairs.length c_17 cs_17 61 5), (19, .own p_18 rv_6.Rates.length c_18 cs_18 34 2), (20, .own p_19 rv_6.Opens.length c_19 cs_19 63 4), (21, .own p_20 rv_6.Pairs.length c_20 cs_20 61 5)]) (AL rfl)
 replace h := bind_some h
 obtain ⟨rv_7, hx_7, h⟩ := h
 refine O.callM (us := [.slice none 0 0]) ca_42 hF (remontoirlaw02_cellar_keep hS.stab ([] : List BeatPair) SRc.nil rv_7 hx_7) rfl rfl fun v_7 Dv_7 a w hK_7 hlev_7 hF => ?_
 replace hG := hG.mono hlev_7
 replace hr := hr.mono hlev_7
 replace hr_1 := hr_1.mono hlev_7
 replace hr_2 := hr_2.mono hlev_7
 replace hr_3 := hr_3.mono hlev_7
 replace hr_4 := hr_4.mono hlev_7
 replace hr_5 := hr_5.mono hlev_7
 replace hr_6 := hr_6.mono hlev_7
 replace hr_7 := hr_7.mono hlev_7
 replace hr_8 := hr_8.mono hlev_7
 replace hr_9 := hr_9.mono hlev_7
 replace hr_10 := hr_10.mono hlev_7
 replace hr_11 := hr_11.mono hlev_7
 replace hr_12 := hr_12.mono hlev_7
 replace hr_13 := hr_13.mono hlev_7
 replace hr_14 := hr_14.mono hlev_7
 replace hr_15 := hr_15.mono hlev_7
 replace hr_16 := hr_16.mono hlev_7
 replace hr_17 := hr_17.mono hlev_7
 replace hr_18 := hr_18.mono hlev_7
 replace hr_19 := hr_19.mono hlev_7
 replace hr_20 := hr_20.mono hlev_7
 obtain ⟨p_21, c_21, cs_21, p_22, c_22, cs_22, p_23, c_23, cs_23, hS2_7, rfl, hr_21, hr_22, hr_23⟩ := hK_7
 replace hS := hS.join hS2_7
 replace hS := hS.move 22 900 rfl (by decide)
 replace hS := hS.move 23 901 rfl (by decide)
 replace hS := hS.move 24 902 rfl (by decide)
 replace hS := hS.weak (ms := [(1, .own p rv.Rates.length c cs 34 2), (2, .own p_1 rv.Opens.length c_1 cs_1 63 4), (3, .own p_2 rv.Pairs.length c_2 cs_2 61 5), (4, .own p_3 rv_1.Rates.length c_3 cs_3 34 2), (5, .own p_4 rv_1.Opens.length c_4 cs_4 63 4), (6, .own p_5 rv_1.Pairs.length c_5 cs_5 61 5), (7, .own p_6 rv_2.Rates.length c_6 cs_6 34 2), (8, .own p_7 rv_2.Opens.length c_7 cs_7 63 4), (9, .own p_8 rv_2.Pairs.length c_8 cs_8 61 5), (10, .own p_9 rv_3.Rates.length c_9 cs_9 34 2), (11, .own p_10 rv_3.Opens.length c_10 cs_10 63 4), (12, .own p_11 rv_3.Pairs.length c_11 cs_11 61 5), (13, .own p_12 rv_4.Rates.length c_12 cs_12 34 2), (14, .own p_13 rv_4.Opens.length c_13 cs_13 63 4), (15, .own p_14 rv_4.Pairs.length c_14 cs_14 61 5), (16, .own p_15 rv_5.Rates.length c_15 cs_15 34 2), (17, .own p_16 rv_5.Opens.length c_16 cs_16 63 4), (18, .own p_17 rv_5.Pairs.length c_17 cs_17 61 5), (19, .own p_18 rv_6.Rates.length c_18 cs_18 34 2), (20, .own p_19 rv_6.Opens.length c_19 cs_19 63 4), (21, .own p_20 rv_6.Pairs.length c_20 cs_20 61 5), (22, .own p_21 rv_7.Rates.length c_21 cs_21 34 2), (23, .own p_22 rv_7.Opens.length c_22 cs_22 63 4), (24, .own p_23 rv_7.Pairs.length c_23 cs_23 61 5)]) (AL rfl)
 replace h := bind_some h
 obtain ⟨rv_8, hx_8, h⟩ := h
 refine O.callM (us := [.slice none 0 0]) ca_42 hF (remontoirlaw02_cellar_keep hS.stab ([] : List BeatPair) SRc.nil rv_8 hx_8) rfl rfl fun v_8 Dv_8 a w hK_8 hlev_8 hF => ?_
 replace hG := hG.mono hlev_8
 replace hr := hr.mono hlev_8
 replace hr_1 := hr_1.mono hlev_8
 replace hr_2 := hr_2.mono hlev_8
 replace hr_3 := hr_3.mono hlev_8
 replace hr_4 := hr_4.mono hlev_8
 replace hr_5 := hr_5.mono hlev_8
 replace hr_6 := hr_6.mono hlev_8
 replace hr_7 := hr_7.mono hlev_8
 replace hr_8 := hr_8.mono hlev_8
 replace hr_9 := hr_9.mono hlev_8
 replace hr_10 := hr_10.mono hlev_8
 replace hr_11 := hr_11.mono hlev_8
 replace hr_12 := hr_12.mono hlev_8
 replace hr_13 := hr_13.mono hlev_8
 replace hr_14 := hr_14.mono hlev_8
 replace hr_15 := hr_15.mono hlev_8
 replace hr_16 := hr_16.mono hlev_8
 replace hr_17 := hr_17.mono hlev_8
 replace hr_18 := hr_18.mono hlev_8
 replace hr_19 := hr_19.mono hlev_8
 replace hr_20 := hr_20.mono hlev_8
 replace hr_21 := hr_21.mono hlev_8
 replace hr_22 := hr_22.mono hlev_8
 replace hr_23 := hr_23.mono hlev_8
 obtain ⟨p_24, c_24, cs_24, p_25, c_25, cs_25, p_26, c_26, cs_26, hS2_8, rfl, hr_24, hr_25, hr_26⟩ := hK_8
 replace hS := hS.join hS2_8
 replace hS := hS.move 25 900 rfl (by decide)
 replace hS := hS.move 26 901 rfl (by decide)
 replace hS := hS.move 27 902 rfl (by decide)
 replace hS := hS.weak (ms := [(1, .own p rv.Rates.length c cs 34 2), (2, .own p_1 rv.Opens.length c_1 cs_1 63 4), (3, .own p_2 rv.Pairs.length c_2 cs_2 61 5), (4, .own p_3 rv_1.Rates.length c_3 cs_3 34 2), (5, .own p_4 rv_1.Opens.length c_4 cs_4 63 4), (6, .own p_5 rv_1.Pairs.length c_5 cs_5 61 5), (7, .own p_6 rv_2.Rates.length c_6 cs_6 34 2), (8, .own p_7 rv_2.Opens.length c_7 cs_7 63 4), (9, .own p_8 rv_2.Pairs.length c_8 cs_8 61 5), (10, .own p_9 rv_3.Rates.length c_9 cs_9 34 2), (11, .own p_10 rv_3.Opens.length c_10 cs_10 63 4), (12, .own p_11 rv_3.Pairs.length c_11 cs_11 61 5), (13, .own p_12 rv_4.Rates.length c_12 cs_12 34 2), (14, .own p_13 rv_4.Opens.length c_13 cs_13 63 4), (15, .own p_14 rv_4.Pairs.length c_14 cs_14 61 5), (16, .own p_15 rv_5.Rates.length c_15 cs_15 34 2), (17, .own p_16 rv_5.Opens.length c_16 cs_16 63 4), (18, .own p_17 rv_5.Pairs.length c_17 cs_17 61 5), (19, .own p_18 rv_6.Rates.length c_18 cs_18 34 2), (20, .own p_19 rv_6.Opens.length c_19 cs_19 63 4), (21, .own p_20 rv_6.Pairs.length c_20 cs_20 61 5), (22, .own p_21 rv_7.Rates.length c_21 cs_21 34 2), (23, .own p_22 rv_7.Opens.length c_22 cs_22 63 4), (24, .own p_23 rv_7.Pairs.length c_23 cs_23 61 5), (25, .own p_24 rv_8.Rates.length c_24 cs_24 34 2), (26, .own p_25 rv_8.Opens.length c_25 cs_25 63 4), (27, .own p_26 rv_8.Pairs.length c_26 cs_26 61 5)]) (AL rfl)
 refine O.buildLit (E := 26) (cs := [iv 0, .slice none 0 0, .slice none 0 0, .slice none 0 0, iv rv.Hours, .slice p rv.Rates.length c, .slice p_1 rv.Opens.length c_1, .slice p_2 rv.Pairs.length c_2, iv rv_1.Hours, .slice p_3 rv_1.Rates.length c_3, .slice p_4 rv_1.Opens.length c_4, .slice p_5 rv_1.Pairs.length c_5, iv rv_2.Hours, .slice p_6 rv_2.Rates.length c_6, .slice p_7 rv_2.Opens.length c_7, .slice p_8 rv_2.Pairs.length c_8, iv rv_3.Hours, .slice p_9 rv_3.Rates.length c_9, .slice p_10 rv_3.Opens.length c_10, .slice p_11 rv_3.Pairs.length c_11, iv rv_4.Hours, .slice p_12 rv_4.Rates.length c_12, .slice p_13 rv_4.Opens.length c_13, .slice p_14 rv_4.Pairs.length c_14, iv rv_5.Hours, .slice p_15 rv_5.Rates.length c_15, .slice p_16 rv_5.Opens.length c_16, .slice p_17 rv_5.Pairs.length c_17, iv rv_6.Hours, .slice p_18 rv_6.Rates.length c_18, .slice p_19 rv_6.Opens.length c_19, .slice p_20 rv_6.Pairs.length c_20, iv rv_7.Hours, .slice p_21 rv_7.Rates.length c_21, .slice p_22 rv_7.Opens.length c_22, .slice p_23 rv_7.Pairs.length c_23, iv rv_8.Hours, .slice p_24 rv_8.Rates.length c_24, .slice p_25 rv_8.Opens.length c_25, .slice p_26 rv_8.Pairs.length c_26]) (us := [.agg #[iv 0, .slice none 0 0, .slice none 0 0, .slice none 0 0], .agg #[iv rv.Hours, .slice p rv.Rates.length c, .slice p_1 rv.Opens.length c_1, .slice p_2 rv.Pairs.length c_2], .agg #[iv rv_1.Hours, .slice p_3 rv_1.Rates.length c_3, .slice p_4 rv_1.Opens.length c_4, .slice p_5 rv_1.Pairs.length c_5], .agg #[iv rv_2.Hours, .slice p_6 rv_2.Rates.length c_6, .slice p_7 rv_2.Opens.length c_7, .slice p_8 rv_2.Pairs.length c_8], .agg #[iv rv_3.Hours, .slice p_9 rv_3.Rates.length c_9, .slice p_10 rv_3.Opens.length c_10, .slice p_11 rv_3.Pairs.length c_11], .agg #[iv rv_4.Hours, .slice p_12 rv_4.Rates.length c_12, .slice p_13 rv_4.Opens.length c_13, .slice p_14 rv_4.Pairs.length c_14], .agg #[iv rv_5.Hours, .slice p_15 rv_5.Rates.length c_15, .slice p_16 rv_5.Opens.length c_16, .slice p_17 rv_5.Pairs.length c_17], .agg #[iv rv_6.Hours, .slice p_18 rv_6.Rates.length c_18, .slice p_19 rv_6.Opens.length c_19, .slice p_20 rv_6.Pairs.length c_20], .agg #[iv rv_7.Hours, .slice p_21 rv_7.Rates.length c_21, .slice p_22 rv_7.Opens.length c_22, .slice p_23 rv_7.Pairs.length c_23], .agg #[iv rv_8.Hours, .slice p_24 rv_8.Rates.length c_24, .slice p_25 rv_8.Opens.length c_25, .slice p_26 rv_8.Pairs.length c_26]]) (parts := [(0, (.tmp 43)), (1, (.tmp 44)), (2, (.tmp 45)), (3, (.tmp 46)), (4, (.tmp 47)), (5, (.tmp 48)), (6, (.tmp 49)), (7, (.tmp 50)), (8, (.tmp 51)), (9, (.tmp 52))]) 28 hF hS rfl (by kernel_rfl) rfl fun b a w hF hS => step hF (Y.assign hF rfl) rfl fun a hF => nT (seq (region (step hF (Y.move hF rfl) rfl fun a hF => step hF (Y.indexSl u_74 sz_26 hF rfl rfl (by decide) (by decide)) rfl fun a hF => step hF (Y.fieldAddr fo_26_0 hF rfl) rfl fun a hF => O.store (us := [iv 13]) 28 sz_3 hF rfl rfl rfl rfl hS rfl rfl fun a w hF hS => nT (seq ?_))))
 replace h := bind_some h
 obtain ⟨rv_9, hx_9, h⟩ := h
 refine drawsV 5 (.flt 0 (.flt 1 (.flt 2 (.flt 3 (.alt 4 .done .stop))))) mixed_ (by kernel_rfl) (fun w => St w0 D0 Dv_8 [(1, .own p rv.Rates.length c cs 34 2), (2, .own p_1 rv.Opens.length c_1 cs_1 63 4), (3, .own p_2 rv.Pairs.length c_2 cs_2 61 5), (4, .own p_3 rv_1.Rates.length c_3 cs_3 34 2), (5, .own p_4 rv_1.Opens.length c_4 cs_4 63 4), (6, .own p_5 rv_1.Pairs.length c_5 cs_5 61 5), (7, .own p_6 rv_2.Rates.length c_6 cs_6 34 2), (8, .own p_7 rv_2.Opens.length c_7 cs_7 63 4), (9, .own p_8 rv_2.Pairs.length c_8 cs_8 61 5), (10, .own p_9 rv_3.Rates.length c_9 cs_9 34 2), (11, .own p_10 rv_3.Opens.length c_10 cs_10 63 4), (12, .own p_11 rv_3.Pairs.length c_11 cs_11 61 5), (13, .own p_12 rv_4.Rates.length c_12 cs_12 34 2), (14, .own p_13 rv_4.Opens.length c_13 cs_13 63 4), (15, .own p_14 rv_4.Pairs.length c_14 cs_14 61 5), (16, .own p_15 rv_5.Rates.length c_15 cs_15 34 2), (17, .own p_16 rv_5.Opens.length c_16 cs_16 63 4), (18, .own p_17 rv_5.Pairs.length c_17 cs_17 61 5), (19, .own p_18 rv_6.Rates.length c_18 cs_18 34 2), (20, .own p_19 rv_6.Opens.length c_19 cs_19 63 4), (21, .own p_20 rv_6.Pairs.length c_20 cs_20 61 5), (22, .own p_21 rv_7.Rates.length c_21 cs_21 34 2), (23, .own p_22 rv_7.Opens.length c_22 cs_22 63 4), (24, .own p_23 rv_7.Pairs.length c_23 cs_23 61 5), (25, .own p_24 rv_8.Rates.length c_24 cs_24 34 2), (26, .own p_25 rv_8.Opens.length c_25 cs_25 63 4), (27, .own p_26 rv_8.Pairs.length c_26 cs_26 61 5), (28, .cells b [iv 0, .slice none 0 0, .slice none 0 0, .slice none 0 0, iv 13, .slice p rv.Rates.length c, .slice p_1 rv.Opens.length c_1, .slice p_2 rv.Pairs.length c_2, iv rv_1.Hours, .slice p_3 rv_1.Rates.length c_3, .slice p_4 rv_1.Opens.length c_4, .slice p_5 rv_1.Pairs.length c_5, iv rv_2.Hours, .slice p_6 rv_2.Rates.length c_6, .slice p_7 rv_2.Opens.length c_7, .slice p_8 rv_2.Pairs.length c_8, iv rv_3.Hours, .slice p_9 rv_3.Rates.length c_9, .slice p_10 rv_3.Opens.length c_10, .slice p_11 rv_3.Pairs.length c_11, iv rv_4.Hours, .slice p_12 rv_4.Rates.length c_12, .slice p_13 rv_4.Opens.length c_13, .slice p_14 rv_4.Pairs.length c_14, iv rv_5.Hours, .slice p_15 rv_5.Rates.length c_15, .slice p_16 rv_5.Opens.length c_16, .slice p_17 rv_5.Pairs.length c_17, iv rv_6.Hours, .slice p_18 rv_6.Rates.length c_18, .slice p_19 rv_6.Opens.length c_19, .slice p_20 rv_6.Pairs.length c_20, iv rv_7.Hours, .slice p_21 rv_7.Rates.length c_21, .slice p_22 rv_7.Opens.length c_22, .slice p_23 rv_7.Pairs.length c_23, iv rv_8.Hours, .slice p_24 rv_8.Rates.length c_24, .slice p_25 rv_8.Opens.length c_25, .slice p_26 rv_8.Pairs.length c_26] 26)] w) (fun a w => Frm 455 [] [(0, .bool false), (1, .slice (some ⟨b, 0, none⟩) 10 10), (60, .slice p_3 rv_1.Rates.length c_3), (61, .agg #[iv rv_9.Low, iv rv_9.High])] a ∧ St w0 D0 Dv_8 [(1, .own p rv.Rates.length c cs 34 2), (2, .own p_1 rv.Opens.length c_1 cs_1 63 4), (3, .own p_2 rv.Pairs.length c_2 cs_2 61 5), (4, .own p_3 rv_1.Rates.length c_3 cs_3 34 2), (5, .own p_4 rv_1.Opens.length c_4 cs_4 63 4), (6, .own p_5 rv_1.Pairs.length c_5 cs_5 61 5), (7, .own p_6 rv_2.Rates.length c_6 cs_6 34 2), (8, .own p_7 rv_2.Opens.length c_7 cs_7 63 4), (9, .own p_8 rv_2.Pairs.length c_8 cs_8 61 5), (10, .own p_9 rv_3.Rates.length c_9 cs_9 34 2), (11, .own p_10 rv_3.Opens.length c_10 cs_10 63 4), (12, .own p_11 rv_3.Pairs.length c_11 cs_11 61 5), (13, .own p_12 rv_4.Rates.length c_12 cs_12 34 2), (14, .own p_13 rv_4.Opens.length c_13 cs_13 63 4), (15, .own p_14 rv_4.Pairs.length c_14 cs_14 61 5), (16, .own p_15 rv_5.Rates.length c_15 cs_15 34 2), (17, .own p_16 rv_5.Opens.length c_16 cs_16 63 4), (18, .own p_17 rv_5.Pairs.length c_17 cs_17 61 5), (19, .own p_18 rv_6.Rates.length c_18 cs_18 34 2), (20, .own p_19 rv_6.Opens.length c_19 cs_19 63 4), (21, .own p_20 rv_6.Pairs.length c_20 cs_20 61 5), (22, .own p_21 rv_7.Rates.length c_21 cs_21 34 2), (23, .own p_22 rv_7.Opens.length c_22 cs_22 63 4), (24, .own p_23 rv_7.Pairs.length c_23 cs_23 61 5), (25, .own p_24 rv_8.Rates.length c_24 cs_24 34 2), (26, .own p_25 rv_8.Opens.length c_25 cs_25 63 4), (27, .own p_26 rv_8.Pairs.length c_26 cs_26 61 5), (28, .cells b [iv 0, .slice none 0 0, .slice none 0 0, .slice none 0 0, iv 13, .slice p rv.Rates.length c, .slice p_1 rv.Opens.length c_1, .slice p_2 rv.Pairs.length c_2, iv rv_1.Hours, .slice p_3 rv_1.Rates.length c_3, .slice p_4 rv_1.Opens.length c_4, .slice p_5 rv_1.Pairs.length c_5, iv rv_2.Hours, .slice p_6 rv_2.Rates.length c_6, .slice p_7 rv_2.Opens.length c_7, .slice p_8 rv_2.Pairs.length c_8, iv rv_3.Hours, .slice p_9 rv_3.Rates.length c_9, .slice p_10 rv_3.Opens.length c_10, .slice p_11 rv_3.Pairs.length c_11, iv rv_4.Hours, .slice p_12 rv_4.Rates.length c_12, .slice p_13 rv_4.Opens.length c_13, .slice p_14 rv_4.Pairs.length c_14, iv rv_5.Hours, .slice p_15 rv_5.Rates.length c_15, .slice p_16 rv_5.Opens.length c_16, .slice p_17 rv_5.Pairs.length c_17, iv rv_6.Hours, .slice p_18 rv_6.Rates.length c_18, .slice p_19 rv_6.Opens.length c_19, .slice p_20 rv_6.Pairs.length c_20, iv rv_7.Hours, .slice p_21 rv_7.Rates.length c_21, .slice p_22 rv_7.Opens.length c_22, .slice p_23 rv_7.Pairs.length c_23, iv rv_8.Hours, .slice p_24 rv_8.Rates.length c_24, .slice p_25 rv_8.Opens.length c_25, .slice p_26 rv_8.Pairs.length c_26] 26)] w) (hS.weak (ms := [(1, .own p rv.Rates.length c cs 34 2), (2, .own p_1 rv.Opens.length c_1 cs_1 63 4), (3, .own p_2 rv.Pairs.length c_2 cs_2 61 5), (4, .own p_3 rv_1.Rates.length c_3 cs_3 34 2), (5, .own p_4 rv_1.Opens.length c_4 cs_4 63 4), (6, .own p_5 rv_1.Pairs.length c_5 cs_5 61 5), (7, .own p_6 rv_2.Rates.length c_6 cs_6 34 2), (8, .own p_7 rv_2.Opens.length c_7 cs_7 63 4), (9, .own p_8 rv_2.Pairs.length c_8 cs_8 61 5), (10, .own p_9 rv_3.Rates.length c_9 cs_9 34 2), (11, .own p_10 rv_3.Opens.length c_10 cs_10 63 4), (12, .own p_11 rv_3.Pairs.length c_11 cs_11 61 5), (13, .own p_12 rv_4.Rates.length c_12 cs_12 34 2), (14, .own p_13 rv_4.Opens.length c_13 cs_13 63 4), (15, .own p_14 rv_4.Pairs.length c_14 cs_14 61 5), (16, .own p_15 rv_5.Rates.length c_15 cs_15 34 2), (17, .own p_16 rv_5.Opens.length c_16 cs_16 63 4), (18, .own p_17 rv_5.Pairs.length c_17 cs_17 61 5), (19, .own p_18 rv_6.Rates.length c_18 cs_18 34 2), (20, .own p_19 rv_6.Opens.length c_19 cs_19 63 4), (21, .own p_20 rv_6.Pairs.length c_20 cs_20 61 5), (22, .own p_21 rv_7.Rates.length c_21 cs_21 34 2), (23, .own p_22 rv_7.Opens.length c_22 cs_22 63 4), (24, .own p_23 rv_7.Pairs.length c_23 cs_23 61 5), (25, .own p_24 rv_8.Rates.length c_24 cs_24 34 2), (26, .own p_25 rv_8.Opens.length c_25 cs_25 63 4), (27, .own p_26 rv_8.Pairs.length c_26 cs_26 61 5), (28, .cells b [iv 0, .slice none 0 0, .slice none 0 0, .slice none 0 0, iv 13, .slice p rv.Rates.length c, .slice p_1 rv.Opens.length c_1, .slice p_2 rv.Pairs.length c_2, iv rv_1.Hours, .slice p_3 rv_1.Rates.length c_3, .slice p_4 rv_1.Opens.length c_4, .slice p_5 rv_1.Pairs.length c_5, iv rv_2.Hours, .slice p_6 rv_2.Rates.length c_6, .slice p_7 rv_2.Opens.length c_7, .slice p_8 rv_2.Pairs.length c_8, iv rv_3.Hours, .slice p_9 rv_3.Rates.length c_9, .slice p_10 rv_3.Opens.length c_10, .slice p_11 rv_3.Pairs.length c_11, iv rv_4.Hours, .slice p_12 rv_4.Rates.length c_12, .slice p_13 rv_4.Opens.length c_13, .slice p_14 rv_4.Pairs.length c_14, iv rv_5.Hours, .slice p_15 rv_5.Rates.length c_15, .slice p_16 rv_5.Opens.length c_16, .slice p_17 rv_5.Pairs.length c_17, iv rv_6.Hours, .slice p_18 rv_6.Rates.length c_18, .slice p_19 rv_6.Opens.length c_19, .slice p_20 rv_6.Pairs.length c_20, iv rv_7.Hours, .slice p_21 rv_7.Rates.length c_21, .slice p_22 rv_7.Opens.length c_22, .slice p_23 rv_7.Pairs.length c_23, iv rv_8.Hours, .slice p_24 rv_8.Rates.length c_24, .slice p_25 rv_8.Opens.length c_25, .slice p_26 rv_8.Pairs.length c_26] 26)]) (AL rfl)).drew (fun _ _ _ _ h => h) ?_ ?_
 ·replace hS := hS.drew
  have hle0 := hS.le
  refine stepV (i := 0) rfl hF (fun w hS => Y.move hF rfl) rfl fun a hF => stepV (i := 1) rfl hF (fun w hS => Y.indexSl u_74 sz_26 hF rfl rfl (by decide) (by decide)) rfl fun a hF => stepV (i := 2) rfl hF (fun w hS => Y.fieldAddr fo_26_1 hF rfl) rfl fun a hF => stepV (i := 3) rfl hF (fun w hS => Y.load1L 28 sz_22 hF rfl hS rfl rfl) rfl fun a hF => oneV (i := 4) rfl ?_ trivial
  refine O.callP (us := [iv 0, iv 1001]) ca_37 hF hS (r0To_ok hS.stab 0 1001 rv_9 hx_9) rfl rfl fun a w hF hS => nT ⟨hS.weak (AL rfl), ?_⟩
  exact toTailV ⟨hF.weak (AF rfl), hS.weak (AL rfl)⟩
 rintro a w ⟨hF, hS⟩
 replace h := ite_some h
 obtain ⟨hg, h⟩ := h
 obtain ⟨b_1, hp⟩ := hS.ownPtr (i := 4) rfl hg
 refine step hF (Y.indexOwn hp u_22 sz_34 hg hF rfl rfl) rfl fun a hF => O.storeOwnP (C := C_Span) (v0 := rv_9) (xs := rv_1.Rates) (us := [iv rv_9.Low, iv rv_9.High]) 4 hp sz_34 hg hF rfl rfl rfl rfl hS rfl hr_3 fun cs_27 a w hF hS hr_27 => ?_
 try rw [show rv_1.Rates.length = (rv_1.Rates.set (Int.toNat 0) rv_9).length from List.length_set.symm] at hF
 try rw [show rv_1.Rates.length = (rv_1.Rates.set (Int.toNat 0) rv_9).length from List.length_set.symm] at hS
 refine nT (seq (region (step hF (Y.move hF rfl) rfl fun a hF => step hF (Y.indexSl u_74 sz_26 hF rfl rfl (by decide) (by decide)) rfl fun a hF => step hF (Y.fieldAddr fo_26_2 hF rfl) rfl fun a hF => step hF (Y.load1L 28 sz_23 hF rfl hS rfl rfl) rfl fun a hF => ?_)))
 replace h := bind_some h
 obtain ⟨e, hx_10, h⟩ := h
 obtain ⟨b_2, hp_1⟩ := hS.ownPtr (i := 8) rfl (idx_rng hx_10)
 obtain ⟨cc, hc, hsub⟩ := ownElI (C := C_BeatOpen) hr_7 hx_10
 obtain rfl := C_BeatOpen.open hc
 refine step hF (Y.indexOwn hp_1 u_23 sz_63 (idx_rng hx_10) hF rfl rfl) rfl fun a hF => step hF (Y.fieldAddr fo_63_0 hF rfl) rfl fun a hF => O.storePart (C := C_BeatOpen) (v0 := (BeatOpen.mk 3 e.Hour e.Step)) (x0 := e) (xs := rv_2.Opens) (us := [iv 3]) (k := 0) 8 hp_1 sz_3 (idx_rng hx_10) hF rfl rfl rfl rfl hx_10 (fun c0 h => by obtain rfl := C_BeatOpen.open h; rfl) (show 0 + 1 ≤ 4 by decide) hS rfl hr_7 fun cs_28 a w hF hS hr_28 => ?_
 try rw [show rv_2.Opens.length = (rv_2.Opens.set (Int.toNat 0) (BeatOpen.mk 3 e.Hour e.Step)).length from List.length_set.symm] at hF
 try rw [show rv_2.Opens.length = (rv_2.Opens.set (Int.toNat 0) (BeatOpen.mk 3 e.Hour e.Step)).length from List.length_set.symm] at hS
 refine nT (seq (region (step hF (Y.move hF rfl) rfl fun a hF => step hF (Y.indexSl u_74 sz_26 hF rfl rfl (by decide) (by decide)) rfl fun a hF => step hF (Y.fieldAddr fo_26_2 hF rfl) rfl fun a hF => step hF (Y.load1L 28 sz_23 hF rfl hS rfl rfl) rfl fun a hF => ?_)))
 replace h := bind_some h
 obtain ⟨e_1, hx_11, h⟩ := h
 obtain ⟨b_3, hp_2⟩ := hS.ownPtr (i := 11) rfl (idx_rng hx_11)
 obtain ⟨cc_1, hc_1, hsub_1⟩ := ownElI (C := C_BeatOpen) hr_10 hx_11
 obtain rfl := C_BeatOpen.open hc_1
 refine step hF (Y.indexOwn hp_2 u_23 sz_63 (idx_rng hx_11) hF rfl rfl) rfl fun a hF => step hF (Y.fieldAddr fo_63_1 hF rfl) rfl fun a hF => O.storePart (C := C_BeatOpen) (v0 := (BeatOpen.mk e_1.Clock 3 e_1.Step)) (x0 := e_1) (xs := rv_3.Opens) (us := [iv 3]) (k := 1) 11 hp_2 sz_3 (idx_rng hx_11) hF rfl rfl rfl rfl hx_11 (fun c0 h => by obtain rfl := C_BeatOpen.open h; rfl) (show 1 + 1 ≤ 4 by decide) hS rfl hr_10 fun cs_29 a w hF hS hr_29 => ?_
 try rw [show rv_3.Opens.length = (rv_3.Opens.set (Int.toNat 0) (BeatOpen.mk e_1.Clock 3 e_1.Step)).length from List.length_set.symm] at hF
 try rw [show rv_3.Opens.length = (rv_3.Opens.set (Int.toNat 0) (BeatOpen.mk e_1.Clock 3 e_1.Step)).length from List.length_set.symm] at hS
 refine nT (seq ?_)
 replace h := bind_some h
 obtain ⟨rv_10, hx_12, h⟩ := h
 refine drawsV 5 (.flt 0 (.flt 1 (.flt 2 (.flt 3 (.alt 4 .done .stop))))) mixed_ (by kernel_rfl) (fun w => St w0 D0 Dv_8 [(1, .own p rv.Rates.length c cs 34 2), (2, .own p_1 rv.Opens.length c_1 cs_1 63 4), (3, .own p_2 rv.Pairs.length c_2 cs_2 61 5), (4, .own p_3 (rv_1.Rates.set (Int.toNat 0) rv_9).length c_3 cs_27 34 2), (5, .own p_4 rv_1.Opens.length c_4 cs_4 63 4), (6, .own p_5 rv_1.Pairs.length c_5 cs_5 61 5), (7, .own p_6 rv_2.Rates.length c_6 cs_6 34 2), (8, .own p_7 (rv_2.Opens.set (Int.toNat 0) (BeatOpen.mk 3 e.Hour e.Step)).length c_7 cs_28 63 4), (9, .own p_8 rv_2.Pairs.length c_8 cs_8 61 5), (10, .own p_9 rv_3.Rates.length c_9 cs_9 34 2), (11, .own p_10 (rv_3.Opens.set (Int.toNat 0) (BeatOpen.mk e_1.Clock 3 e_1.Step)).length c_10 cs_29 63 4), (12, .own p_11 rv_3.Pairs.length c_11 cs_11 61 5), (13, .own p_12 rv_4.Rates.length c_12 cs_12 34 2), (14, .own p_13 rv_4.Opens.length c_13 cs_13 63 4), (15, .own p_14 rv_4.Pairs.length c_14 cs_14 61 5), (16, .own p_15 rv_5.Rates.length c_15 cs_15 34 2), (17, .own p_16 rv_5.Opens.length c_16 cs_16 63 4), (18, .own p_17 rv_5.Pairs.length c_17 cs_17 61 5), (19, .own p_18 rv_6.Rates.length c_18 cs_18 34 2), (20, .own p_19 rv_6.Opens.length c_19 cs_19 63 4), (21, .own p_20 rv_6.Pairs.length c_20 cs_20 61 5), (22, .own p_21 rv_7.Rates.length c_21 cs_21 34 2), (23, .own p_22 rv_7.Opens.length c_22 cs_22 63 4), (24, .own p_23 rv_7.Pairs.length c_23 cs_23 61 5), (25, .own p_24 rv_8.Rates.length c_24 cs_24 34 2), (26, .own p_25 rv_8.Opens.length c_25 cs_25 63 4), (27, .own p_26 rv_8.Pairs.length c_26 cs_26 61 5), (28, .cells b [iv 0, .slice none 0 0, .slice none 0 0, .slice none 0 0, iv 13, .slice p rv.Rates.length c, .slice p_1 rv.Opens.length c_1, .slice p_2 rv.Pairs.length c_2, iv rv_1.Hours, .slice p_3 (rv_1.Rates.set (Int.toNat 0) rv_9).length c_3, .slice p_4 rv_1.Opens.length c_4, .slice p_5 rv_1.Pairs.length c_5, iv rv_2.Hours, .slice p_6 rv_2.Rates.length c_6, .slice p_7 (rv_2.Opens.set (Int.toNat 0) (BeatOpen.mk 3 e.Hour e.Step)).length c_7, .slice p_8 rv_2.Pairs.length c_8, iv rv_3.Hours, .slice p_9 rv_3.Rates.length c_9, .slice p_10 (rv_3.Opens.set (Int.toNat 0) (BeatOpen.mk e_1.Clock 3 e_1.Step)).length c_10, .slice p_11 rv_3.Pairs.length c_11, iv rv_4.Hours, .slice p_12 rv_4.Rates.length c_12, .slice p_13 rv_4.Opens.length c_13, .slice p_14 rv_4.Pairs.length c_14, iv rv_5.Hours, .slice p_15 rv_5.Rates.length c_15, .slice p_16 rv_5.Opens.length c_16, .slice p_17 rv_5.Pairs.length c_17, iv rv_6.Hours, .slice p_18 rv_6.Rates.length c_18, .slice p_19 rv_6.Opens.length c_19, .slice p_20 rv_6.Pairs.length c_20, iv rv_7.Hours, .slice p_21 rv_7.Rates.length c_21, .slice p_22 rv_7.Opens.length c_22, .slice p_23 rv_7.Pairs.length c_23, iv rv_8.Hours, .slice p_24 rv_8.Rates.length c_24, .slice p_25 rv_8.Opens.length c_25, .slice p_26 rv_8.Pairs.length c_26] 26)] w) (fun a w => Frm 455 [] [(0, .bool false), (1, .slice (some ⟨b, 0, none⟩) 10 10), (78, .slice p_13 rv_4.Opens.length c_13), (79, .agg #[iv rv_10.Low, iv rv_10.High])] a ∧ St w0 D0 Dv_8 [(1, .own p rv.Rates.length c cs 34 2), (2, .own p_1 rv.Opens.length c_1 cs_1 63 4), (3, .own p_2 rv.Pairs.length c_2 cs_2 61 5), (4, .own p_3 (rv_1.Rates.set (Int.toNat 0) rv_9).length c_3 cs_27 34 2), (5, .own p_4 rv_1.Opens.length c_4 cs_4 63 4), (6, .own p_5 rv_1.Pairs.length c_5 cs_5 61 5), (7, .own p_6 rv_2.Rates.length c_6 cs_6 34 2), (8, .own p_7 (rv_2.Opens.set (Int.toNat 0) (BeatOpen.mk 3 e.Hour e.Step)).length c_7 cs_28 63 4), (9, .own p_8 rv_2.Pairs.length c_8 cs_8 61 5), (10, .own p_9 rv_3.Rates.length c_9 cs_9 34 2), (11, .own p_10 (rv_3.Opens.set (Int.toNat 0) (BeatOpen.mk e_1.Clock 3 e_1.Step)).length c_10 cs_29 63 4), (12, .own p_11 rv_3.Pairs.length c_11 cs_11 61 5), (13, .own p_12 rv_4.Rates.length c_12 cs_12 34 2), (14, .own p_13 rv_4.Opens.length c_13 cs_13 63 4), (15, .own p_14 rv_4.Pairs.length c_14 cs_14 61 5), (16, .own p_15 rv_5.Rates.length c_15 cs_15 34 2), (17, .own p_16 rv_5.Opens.length c_16 cs_16 63 4), (18, .own p_17 rv_5.Pairs.length c_17 cs_17 61 5), (19, .own p_18 rv_6.Rates.length c_18 cs_18 34 2), (20, .own p_19 rv_6.Opens.length c_19 cs_19 63 4), (21, .own p_20 rv_6.Pairs.length c_20 cs_20 61 5), (22, .own p_21 rv_7.Rates.length c_21 cs_21 34 2), (23, .own p_22 rv_7.Opens.length c_22 cs_22 63 4), (24, .own p_23 rv_7.Pairs.length c_23 cs_23 61 5), (25, .own p_24 rv_8.Rates.length c_24 cs_24 34 2), (26, .own p_25 rv_8.Opens.length c_25 cs_25 63 4), (27, .own p_26 rv_8.Pairs.length c_26 cs_26 61 5), (28, .cells b [iv 0, .slice none 0 0, .slice none 0 0, .slice none 0 0, iv 13, .slice p rv.Rates.length c, .slice p_1 rv.Opens.length c_1, .slice p_2 rv.Pairs.length c_2, iv rv_1.Hours, .slice p_3 (rv_1.Rates.set (Int.toNat 0) rv_9).length c_3, .slice p_4 rv_1.Opens.length c_4, .slice p_5 rv_1.Pairs.length c_5, iv rv_2.Hours, .slice p_6 rv_2.Rates.length c_6, .slice p_7 (rv_2.Opens.set (Int.toNat 0) (BeatOpen.mk 3 e.Hour e.Step)).length c_7, .slice p_8 rv_2.Pairs.length c_8, iv rv_3.Hours, .slice p_9 rv_3.Rates.length c_9, .slice p_10 (rv_3.Opens.set (Int.toNat 0) (BeatOpen.mk e_1.Clock 3 e_1.Step)).length c_10, .slice p_11 rv_3.Pairs.length c_11, iv rv_4.Hours, .slice p_12 rv_4.Rates.length c_12, .slice p_13 rv_4.Opens.length c_13, .slice p_14 rv_4.Pairs.length c_14, iv rv_5.Hours, .slice p_15 rv_5.Rates.length c_15, .slice p_16 rv_5.Opens.length c_16, .slice p_17 rv_5.Pairs.length c_17, iv rv_6.Hours, .slice p_18 rv_6.Rates.length c_18, .slice p_19 rv_6.Opens.length c_19, .slice p_20 rv_6.Pairs.length c_20, iv rv_7.Hours, .slice p_21 rv_7.Rates.length c_21, .slice p_22 rv_7.Opens.length c_22, .slice p_23 rv_7.Pairs.length c_23, iv rv_8.Hours, .slice p_24 rv_8.Rates.length c_24, .slice p_25 rv_8.Opens.length c_25, .slice p_26 rv_8.Pairs.length c_26] 26)] w) (hS.weak (ms := [(1, .own p rv.Rates.length c cs 34 2), (2, .own p_1 rv.Opens.length c_1 cs_1 63 4), (3, .own p_2 rv.Pairs.length c_2 cs_2 61 5), (4, .own p_3 (rv_1.Rates.set (Int.toNat 0) rv_9).length c_3 cs_27 34 2), (5, .own p_4 rv_1.Opens.length c_4 cs_4 63 4), (6, .own p_5 rv_1.Pairs.length c_5 cs_5 61 5), (7, .own p_6 rv_2.Rates.length c_6 cs_6 34 2), (8, .own p_7 (rv_2.Opens.set (Int.toNat 0) (BeatOpen.mk 3 e.Hour e.Step)).length c_7 cs_28 63 4), (9, .own p_8 rv_2.Pairs.length c_8 cs_8 61 5), (10, .own p_9 rv_3.Rates.length c_9 cs_9 34 2), (11, .own p_10 (rv_3.Opens.set (Int.toNat 0) (BeatOpen.mk e_1.Clock 3 e_1.Step)).length c_10 cs_29 63 4), (12, .own p_11 rv_3.Pairs.length c_11 cs_11 61 5), (13, .own p_12 rv_4.Rates.length c_12 cs_12 34 2), (14, .own p_13 rv_4.Opens.length c_13 cs_13 63 4), (15, .own p_14 rv_4.Pairs.length c_14 cs_14 61 5), (16, .own p_15 rv_5.Rates.length c_15 cs_15 34 2), (17, .own p_16 rv_5.Opens.length c_16 cs_16 63 4), (18, .own p_17 rv_5.Pairs.length c_17 cs_17 61 5), (19, .own p_18 rv_6.Rates.length c_18 cs_18 34 2), (20, .own p_19 rv_6.Opens.length c_19 cs_19 63 4), (21, .own p_20 rv_6.Pairs.length c_20 cs_20 61 5), (22, .own p_21 rv_7.Rates.length c_21 cs_21 34 2), (23, .own p_22 rv_7.Opens.length c_22 cs_22 63 4), (24, .own p_23 rv_7.Pairs.length c_23 cs_23 61 5), (25, .own p_24 rv_8.Rates.length c_24 cs_24 34 2), (26, .own p_25 rv_8.Opens.length c_25 cs_25 63 4), (27, .own p_26 rv_8.Pairs.length c_26 cs_26 61 5), (28, .cells b [iv 0, .slice none 0 0, .slice none 0 0, .slice none 0 0, iv 13, .slice p rv.Rates.length c, .slice p_1 rv.Opens.length c_1, .slice p_2 rv.Pairs.length c_2, iv rv_1.Hours, .slice p_3 (rv_1.Rates.set (Int.toNat 0) rv_9).length c_3, .slice p_4 rv_1.Opens.length c_4, .slice p_5 rv_1.Pairs.length c_5, iv rv_2.Hours, .slice p_6 rv_2.Rates.length c_6, .slice p_7 (rv_2.Opens.set (Int.toNat 0) (BeatOpen.mk 3 e.Hour e.Step)).length c_7, .slice p_8 rv_2.Pairs.length c_8, iv rv_3.Hours, .slice p_9 rv_3.Rates.length c_9, .slice p_10 (rv_3.Opens.set (Int.toNat 0) (BeatOpen.mk e_1.Clock 3 e_1.Step)).length c_10, .slice p_11 rv_3.Pairs.length c_11, iv rv_4.Hours, .slice p_12 rv_4.Rates.length c_12, .slice p_13 rv_4.Opens.length c_13, .slice p_14 rv_4.Pairs.length c_14, iv rv_5.Hours, .slice p_15 rv_5.Rates.length c_15, .slice p_16 rv_5.Opens.length c_16, .slice p_17 rv_5.Pairs.length c_17, iv rv_6.Hours, .slice p_18 rv_6.Rates.length c_18, .slice p_19 rv_6.Opens.length c_19, .slice p_20 rv_6.Pairs.length c_20, iv rv_7.Hours, .slice p_21 rv_7.Rates.length c_21, .slice p_22 rv_7.Opens.length c_22, .slice p_23 rv_7.Pairs.length c_23, iv rv_8.Hours, .slice p_24 rv_8.Rates.length c_24, .slice p_25 rv_8.Opens.length c_25, .slice p_26 rv_8.Pairs.length c_26] 26)]) (AL rfl)).drew (fun _ _ _ _ h => h) ?_ ?_
 ·replace hS := hS.drew
  have hle0 := hS.le
  refine stepV (i := 0) rfl hF (fun w hS => Y.move hF rfl) rfl fun a hF => stepV (i := 1) rfl hF (fun w hS => Y.indexSl u_74 sz_26 hF rfl rfl (by decide) (by decide)) rfl fun a hF => stepV (i := 2) rfl hF (fun w hS => Y.fieldAddr fo_26_2 hF rfl) rfl fun a hF => stepV (i := 3) rfl hF (fun w hS => Y.load1L 28 sz_23 hF rfl hS rfl rfl) rfl fun a hF => oneV (i := 4) rfl ?_ trivial
  refine O.callP (us := [iv 1, iv 0]) ca_37 hF hS (r0To_ok hS.stab 1 0 rv_10 hx_12) rfl rfl fun a w hF hS => nT ⟨hS.weak (AL rfl), ?_⟩
  exact toTailV ⟨hF.weak (AF rfl), hS.weak (AL rfl)⟩
 rintro a w ⟨hF, hS⟩
 replace h := bind_some h
 obtain ⟨e_2, hx_13, h⟩ := h
 obtain ⟨b_4, hp_3⟩ := hS.ownPtr (i := 14) rfl (idx_rng hx_13)
 obtain ⟨cc_2, hc_2, hsub_2⟩ := ownElI (C := C_BeatOpen) hr_13 hx_13
 obtain rfl := C_BeatOpen.open hc_2
 refine step hF (Y.indexOwn hp_3 u_23 sz_63 (idx_rng hx_13) hF rfl rfl) rfl fun a hF => step hF (Y.fieldAddr fo_63_2 hF rfl) rfl fun a hF => O.storePart (C := C_BeatOpen) (v0 := (BeatOpen.mk e_2.Clock e_2.Hour rv_10)) (x0 := e_2) (xs := rv_4.Opens) (us := [iv rv_10.Low, iv rv_10.High]) (k := 2) 14 hp_3 sz_34 (idx_rng hx_13) hF rfl rfl rfl rfl hx_13 (fun c0 h => by obtain rfl := C_BeatOpen.open h; rfl) (show 2 + 2 ≤ 4 by decide) hS rfl hr_13 fun cs_30 a w hF hS hr_30 => ?_
 try rw [show rv_4.Opens.length = (rv_4.Opens.set (Int.toNat 0) (BeatOpen.mk e_2.Clock e_2.Hour rv_10)).length from List.length_set.symm] at hF
 try rw [show rv_4.Opens.length = (rv_4.Opens.set (Int.toNat 0) (BeatOpen.mk e_2.Clock e_2.Hour rv_10)).length from List.length_set.symm] at hS
 refine nT (seq (region (step hF (Y.move hF rfl) rfl fun a hF => step hF (Y.indexSl u_74 sz_26 hF rfl rfl (by decide) (by decide)) rfl fun a hF => step hF (Y.fieldAddr fo_26_3 hF rfl) rfl fun a hF => step hF (Y.load1L 28 sz_24 hF rfl hS rfl rfl) rfl fun a hF => ?_)))
 replace h := bind_some h
 obtain ⟨e_3, hx_14, h⟩ := h
 obtain ⟨b_5, hp_4⟩ := hS.ownPtr (i := 18) rfl (idx_rng hx_14)
 obtain ⟨cc_3, hc_3, hsub_3⟩ := ownElI (C := C_BeatPair) hr_17 hx_14
 obtain rfl := C_BeatPair.open hc_3
 refine step hF (Y.indexOwn hp_4 u_24 sz_61 (idx_rng hx_14) hF rfl rfl) rfl fun a hF => step hF (Y.fieldAddr fo_61_0 hF rfl) rfl fun a hF => O.storePart (C := C_BeatPair) (v0 := (BeatPair.mk 4 e_3.One e_3.Other e_3.Read)) (x0 := e_3) (xs := rv_5.Pairs) (us := [iv 4]) (k := 0) 18 hp_4 sz_3 (idx_rng hx_14) hF rfl rfl rfl rfl hx_14 (fun c0 h => by obtain rfl := C_BeatPair.open h; rfl) (show 0 + 1 ≤ 5 by decide) hS rfl hr_17 fun cs_31 a w hF hS hr_31 => ?_
 try rw [show rv_5.Pairs.length = (rv_5.Pairs.set (Int.toNat 0) (BeatPair.mk 4 e_3.One e_3.Other e_3.Read)).length from List.length_set.symm] at hF
 try rw [show rv_5.Pairs.length = (rv_5.Pairs.set (Int.toNat 0) (BeatPair.mk 4 e_3.One e_3.Other e_3.Read)).length from List.length_set.symm] at hS
 refine nT (seq (region (step hF (Y.move hF rfl) rfl fun a hF => step hF (Y.indexSl u_74 sz_26 hF rfl rfl (by decide) (by decide)) rfl fun a hF => step hF (Y.fieldAddr fo_26_3 hF rfl) rfl fun a hF => step hF (Y.load1L 28 sz_24 hF rfl hS rfl rfl) rfl fun a hF => ?_)))
 replace h := bind_some h
 obtain ⟨e_4, hx_15, h⟩ := h
 obtain ⟨b_6, hp_5⟩ := hS.ownPtr (i := 21) rfl (idx_rng hx_15)
 obtain ⟨cc_4, hc_4, hsub_4⟩ := ownElI (C := C_BeatPair) hr_20 hx_15
 obtain rfl := C_BeatPair.open hc_4
 refine step hF (Y.indexOwn hp_5 u_24 sz_61 (idx_rng hx_15) hF rfl rfl) rfl fun a hF => step hF (Y.fieldAddr fo_61_2 hF rfl) rfl fun a hF => O.storePart (C := C_BeatPair) (v0 := (BeatPair.mk e_4.Hour e_4.One 0 e_4.Read)) (x0 := e_4) (xs := rv_6.Pairs) (us := [iv 0]) (k := 2) 21 hp_5 sz_3 (idx_rng hx_15) hF rfl rfl rfl rfl hx_15 (fun c0 h => by obtain rfl := C_BeatPair.open h; rfl) (show 2 + 1 ≤ 5 by decide) hS rfl hr_20 fun cs_32 a w hF hS hr_32 => ?_
 try rw [show rv_6.Pairs.length = (rv_6.Pairs.set (Int.toNat 1) (BeatPair.mk e_4.Hour e_4.One 0 e_4.Read)).length from List.length_set.symm] at hF
 try rw [show rv_6.Pairs.length = (rv_6.Pairs.set (Int.toNat 1) (BeatPair.mk e_4.Hour e_4.One 0 e_4.Read)).length from List.length_set.symm] at hS
 refine nT (seq (region (step hF (Y.move hF rfl) rfl fun a hF => step hF (Y.indexSl u_74 sz_26 hF rfl rfl (by decide) (by decide)) rfl fun a hF => step hF (Y.fieldAddr fo_26_3 hF rfl) rfl fun a hF => step hF (Y.load1L 28 sz_24 hF rfl hS rfl rfl) rfl fun a hF => ?_)))
 replace h := bind_some h
 obtain ⟨e_5, hx_16, h⟩ := h
 obtain ⟨b_7, hp_6⟩ := hS.ownPtr (i := 24) rfl (idx_rng hx_16)
 obtain ⟨cc_5, hc_5, hsub_5⟩ := ownElI (C := C_BeatPair) hr_23 hx_16
 obtain rfl := C_BeatPair.open hc_5
 refine step hF (Y.indexOwn hp_6 u_24 sz_61 (idx_rng hx_16) hF rfl rfl) rfl fun a hF => step hF (Y.fieldAddr fo_61_1 hF rfl) rfl fun a hF => O.storePart (C := C_BeatPair) (v0 := (BeatPair.mk e_5.Hour (-1) e_5.Other e_5.Read)) (x0 := e_5) (xs := rv_7.Pairs) (us := [iv (-1)]) (k := 1) 24 hp_6 sz_3 (idx_rng hx_16) hF rfl rfl rfl rfl hx_16 (fun c0 h => by obtain rfl := C_BeatPair.open h; rfl) (show 1 + 1 ≤ 5 by decide) hS rfl hr_23 fun cs_33 a w hF hS hr_33 => ?_
 try rw [show rv_7.Pairs.length = (rv_7.Pairs.set (Int.toNat 1) (BeatPair.mk e_5.Hour (-1) e_5.Other e_5.Read)).length from List.length_set.symm] at hF
 try rw [show rv_7.Pairs.length = (rv_7.Pairs.set (Int.toNat 1) (BeatPair.mk e_5.Hour (-1) e_5.Other e_5.Read)).length from List.length_set.symm] at hS
 refine nT (seq ?_)
 replace h := bind_some h
 obtain ⟨rv_11, hx_17, h⟩ := h
 refine drawsV 5 (.flt 0 (.flt 1 (.flt 2 (.flt 3 (.alt 4 .done .stop))))) mixed_ (by kernel_rfl) (fun w => St w0 D0 Dv_8 [(1, .own p rv.Rates.length c cs 34 2), (2, .own p_1 rv.Opens.length c_1 cs_1 63 4), (3, .own p_2 rv.Pairs.length c_2 cs_2 61 5), (4, .own p_3 (rv_1.Rates.set (Int.toNat 0) rv_9).length c_3 cs_27 34 2), (5, .own p_4 rv_1.Opens.length c_4 cs_4 63 4), (6, .own p_5 rv_1.Pairs.length c_5 cs_5 61 5), (7, .own p_6 rv_2.Rates.length c_6 cs_6 34 2), (8, .own p_7 (rv_2.Opens.set (Int.toNat 0) (BeatOpen.mk 3 e.Hour e.Step)).length c_7 cs_28 63 4), (9, .own p_8 rv_2.Pairs.length c_8 cs_8 61 5), (10, .own p_9 rv_3.Rates.length c_9 cs_9 34 2), (11, .own p_10 (rv_3.Opens.set (Int.toNat 0) (BeatOpen.mk e_1.Clock 3 e_1.Step)).length c_10 cs_29 63 4), (12, .own p_11 rv_3.Pairs.length c_11 cs_11 61 5), (13, .own p_12 rv_4.Rates.length c_12 cs_12 34 2), (14, .own p_13 (rv_4.Opens.set (Int.toNat 0) (BeatOpen.mk e_2.Clock e_2.Hour rv_10)).length c_13 cs_30 63 4), (15, .own p_14 rv_4.Pairs.length c_14 cs_14 61 5), (16, .own p_15 rv_5.Rates.length c_15 cs_15 34 2), (17, .own p_16 rv_5.Opens.length c_16 cs_16 63 4), (18, .own p_17 (rv_5.Pairs.set (Int.toNat 0) (BeatPair.mk 4 e_3.One e_3.Other e_3.Read)).length c_17 cs_31 61 5), (19, .own p_18 rv_6.Rates.length c_18 cs_18 34 2), (20, .own p_19 rv_6.Opens.length c_19 cs_19 63 4), (21, .own p_20 (rv_6.Pairs.set (Int.toNat 1) (BeatPair.mk e_4.Hour e_4.One 0 e_4.Read)).length c_20 cs_32 61 5), (22, .own p_21 rv_7.Rates.length c_21 cs_21 34 2), (23, .own p_22 rv_7.Opens.length c_22 cs_22 63 4), (24, .own p_23 (rv_7.Pairs.set (Int.toNat 1) (BeatPair.mk e_5.Hour (-1) e_5.Other e_5.Read)).length c_23 cs_33 61 5), (25, .own p_24 rv_8.Rates.length c_24 cs_24 34 2), (26, .own p_25 rv_8.Opens.length c_25 cs_25 63 4), (27, .own p_26 rv_8.Pairs.length c_26 cs_26 61 5), (28, .cells b [iv 0, .slice none 0 0, .slice none 0 0, .slice none 0 0, iv 13, .slice p rv.Rates.length c, .slice p_1 rv.Opens.length c_1, .slice p_2 rv.Pairs.length c_2, iv rv_1.Hours, .slice p_3 (rv_1.Rates.set (Int.toNat 0) rv_9).length c_3, .slice p_4 rv_1.Opens.length c_4, .slice p_5 rv_1.Pairs.length c_5, iv rv_2.Hours, .slice p_6 rv_2.Rates.length c_6, .slice p_7 (rv_2.Opens.set (Int.toNat 0) (BeatOpen.mk 3 e.Hour e.Step)).length c_7, .slice p_8 rv_2.Pairs.length c_8, iv rv_3.Hours, .slice p_9 rv_3.Rates.length c_9, .slice p_10 (rv_3.Opens.set (Int.toNat 0) (BeatOpen.mk e_1.Clock 3 e_1.Step)).length c_10, .slice p_11 rv_3.Pairs.length c_11, iv rv_4.Hours, .slice p_12 rv_4.Rates.length c_12, .slice p_13 (rv_4.Opens.set (Int.toNat 0) (BeatOpen.mk e_2.Clock e_2.Hour rv_10)).length c_13, .slice p_14 rv_4.Pairs.length c_14, iv rv_5.Hours, .slice p_15 rv_5.Rates.length c_15, .slice p_16 rv_5.Opens.length c_16, .slice p_17 (rv_5.Pairs.set (Int.toNat 0) (BeatPair.mk 4 e_3.One e_3.Other e_3.Read)).length c_17, iv rv_6.Hours, .slice p_18 rv_6.Rates.length c_18, .slice p_19 rv_6.Opens.length c_19, .slice p_20 (rv_6.Pairs.set (Int.toNat 1) (BeatPair.mk e_4.Hour e_4.One 0 e_4.Read)).length c_20, iv rv_7.Hours, .slice p_21 rv_7.Rates.length c_21, .slice p_22 rv_7.Opens.length c_22, .slice p_23 (rv_7.Pairs.set (Int.toNat 1) (BeatPair.mk e_5.Hour (-1) e_5.Other e_5.Read)).length c_23, iv rv_8.Hours, .slice p_24 rv_8.Rates.length c_24, .slice p_25 rv_8.Opens.length c_25, .slice p_26 rv_8.Pairs.length c_26] 26)] w) (fun a w => Frm 455 [] [(0, .bool false), (1, .slice (some ⟨b, 0, none⟩) 10 10), (103, .slice p_26 rv_8.Pairs.length c_26), (104, .agg #[iv rv_11.Low, iv rv_11.High])] a ∧ St w0 D0 Dv_8 [(1, .own p rv.Rates.length c cs 34 2), (2, .own p_1 rv.Opens.length c_1 cs_1 63 4), (3, .own p_2 rv.Pairs.length c_2 cs_2 61 5), (4, .own p_3 (rv_1.Rates.set (Int.toNat 0) rv_9).length c_3 cs_27 34 2), (5, .own p_4 rv_1.Opens.length c_4 cs_4 63 4), (6, .own p_5 rv_1.Pairs.length c_5 cs_5 61 5), (7, .own p_6 rv_2.Rates.length c_6 cs_6 34 2), (8, .own p_7 (rv_2.Opens.set (Int.toNat 0) (BeatOpen.mk 3 e.Hour e.Step)).length c_7 cs_28 63 4), (9, .own p_8 rv_2.Pairs.length c_8 cs_8 61 5), (10, .own p_9 rv_3.Rates.length c_9 cs_9 34 2), (11, .own p_10 (rv_3.Opens.set (Int.toNat 0) (BeatOpen.mk e_1.Clock 3 e_1.Step)).length c_10 cs_29 63 4), (12, .own p_11 rv_3.Pairs.length c_11 cs_11 61 5), (13, .own p_12 rv_4.Rates.length c_12 cs_12 34 2), (14, .own p_13 (rv_4.Opens.set (Int.toNat 0) (BeatOpen.mk e_2.Clock e_2.Hour rv_10)).length c_13 cs_30 63 4), (15, .own p_14 rv_4.Pairs.length c_14 cs_14 61 5), (16, .own p_15 rv_5.Rates.length c_15 cs_15 34 2), (17, .own p_16 rv_5.Opens.length c_16 cs_16 63 4), (18, .own p_17 (rv_5.Pairs.set (Int.toNat 0) (BeatPair.mk 4 e_3.One e_3.Other e_3.Read)).length c_17 cs_31 61 5), (19, .own p_18 rv_6.Rates.length c_18 cs_18 34 2), (20, .own p_19 rv_6.Opens.length c_19 cs_19 63 4), (21, .own p_20 (rv_6.Pairs.set (Int.toNat 1) (BeatPair.mk e_4.Hour e_4.One 0 e_4.Read)).length c_20 cs_32 61 5), (22, .own p_21 rv_7.Rates.length c_21 cs_21 34 2), (23, .own p_22 rv_7.Opens.length c_22 cs_22 63 4), (24, .own p_23 (rv_7.Pairs.set (Int.toNat 1) (BeatPair.mk e_5.Hour (-1) e_5.Other e_5.Read)).length c_23 cs_33 61 5), (25, .own p_24 rv_8.Rates.length c_24 cs_24 34 2), (26, .own p_25 rv_8.Opens.length c_25 cs_25 63 4), (27, .own p_26 rv_8.Pairs.length c_26 cs_26 61 5), (28, .cells b [iv 0, .slice none 0 0, .slice none 0 0, .slice none 0 0, iv 13, .slice p rv.Rates.length c, .slice p_1 rv.Opens.length c_1, .slice p_2 rv.Pairs.length c_2, iv rv_1.Hours, .slice p_3 (rv_1.Rates.set (Int.toNat 0) rv_9).length c_3, .slice p_4 rv_1.Opens.length c_4, .slice p_5 rv_1.Pairs.length c_5, iv rv_2.Hours, .slice p_6 rv_2.Rates.length c_6, .slice p_7 (rv_2.Opens.set (Int.toNat 0) (BeatOpen.mk 3 e.Hour e.Step)).length c_7, .slice p_8 rv_2.Pairs.length c_8, iv rv_3.Hours, .slice p_9 rv_3.Rates.length c_9, .slice p_10 (rv_3.Opens.set (Int.toNat 0) (BeatOpen.mk e_1.Clock 3 e_1.Step)).length c_10, .slice p_11 rv_3.Pairs.length c_11, iv rv_4.Hours, .slice p_12 rv_4.Rates.length c_12, .slice p_13 (rv_4.Opens.set (Int.toNat 0) (BeatOpen.mk e_2.Clock e_2.Hour rv_10)).length c_13, .slice p_14 rv_4.Pairs.length c_14, iv rv_5.Hours, .slice p_15 rv_5.Rates.length c_15, .slice p_16 rv_5.Opens.length c_16, .slice p_17 (rv_5.Pairs.set (Int.toNat 0) (BeatPair.mk 4 e_3.One e_3.Other e_3.Read)).length c_17, iv rv_6.Hours, .slice p_18 rv_6.Rates.length c_18, .slice p_19 rv_6.Opens.length c_19, .slice p_20 (rv_6.Pairs.set (Int.toNat 1) (BeatPair.mk e_4.Hour e_4.One 0 e_4.Read)).length c_20, iv rv_7.Hours, .slice p_21 rv_7.Rates.length c_21, .slice p_22 rv_7.Opens.length c_22, .slice p_23 (rv_7.Pairs.set (Int.toNat 1) (BeatPair.mk e_5.Hour (-1) e_5.Other e_5.Read)).length c_23, iv rv_8.Hours, .slice p_24 rv_8.Rates.length c_24, .slice p_25 rv_8.Opens.length c_25, .slice p_26 rv_8.Pairs.length c_26] 26)] w) (hS.weak (ms := [(1, .own p rv.Rates.length c cs 34 2), (2, .own p_1 rv.Opens.length c_1 cs_1 63 4), (3, .own p_2 rv.Pairs.length c_2 cs_2 61 5), (4, .own p_3 (rv_1.Rates.set (Int.toNat 0) rv_9).length c_3 cs_27 34 2), (5, .own p_4 rv_1.Opens.length c_4 cs_4 63 4), (6, .own p_5 rv_1.Pairs.length c_5 cs_5 61 5), (7, .own p_6 rv_2.Rates.length c_6 cs_6 34 2), (8, .own p_7 (rv_2.Opens.set (Int.toNat 0) (BeatOpen.mk 3 e.Hour e.Step)).length c_7 cs_28 63 4), (9, .own p_8 rv_2.Pairs.length c_8 cs_8 61 5), (10, .own p_9 rv_3.Rates.length c_9 cs_9 34 2), (11, .own p_10 (rv_3.Opens.set (Int.toNat 0) (BeatOpen.mk e_1.Clock 3 e_1.Step)).length c_10 cs_29 63 4), (12, .own p_11 rv_3.Pairs.length c_11 cs_11 61 5), (13, .own p_12 rv_4.Rates.length c_12 cs_12 34 2), (14, .own p_13 (rv_4.Opens.set (Int.toNat 0) (BeatOpen.mk e_2.Clock e_2.Hour rv_10)).length c_13 cs_30 63 4), (15, .own p_14 rv_4.Pairs.length c_14 cs_14 61 5), (16, .own p_15 rv_5.Rates.length c_15 cs_15 34 2), (17, .own p_16 rv_5.Opens.length c_16 cs_16 63 4), (18, .own p_17 (rv_5.Pairs.set (Int.toNat 0) (BeatPair.mk 4 e_3.One e_3.Other e_3.Read)).length c_17 cs_31 61 5), (19, .own p_18 rv_6.Rates.length c_18 cs_18 34 2), (20, .own p_19 rv_6.Opens.length c_19 cs_19 63 4), (21, .own p_20 (rv_6.Pairs.set (Int.toNat 1) (BeatPair.mk e_4.Hour e_4.One 0 e_4.Read)).length c_20 cs_32 61 5), (22, .own p_21 rv_7.Rates.length c_21 cs_21 34 2), (23, .own p_22 rv_7.Opens.length c_22 cs_22 63 4), (24, .own p_23 (rv_7.Pairs.set (Int.toNat 1) (BeatPair.mk e_5.Hour (-1) e_5.Other e_5.Read)).length c_23 cs_33 61 5), (25, .own p_24 rv_8.Rates.length c_24 cs_24 34 2), (26, .own p_25 rv_8.Opens.length c_25 cs_25 63 4), (27, .own p_26 rv_8.Pairs.length c_26 cs_26 61 5), (28, .cells b [iv 0, .slice none 0 0, .slice none 0 0, .slice none 0 0, iv 13, .slice p rv.Rates.length c, .slice p_1 rv.Opens.length c_1, .slice p_2 rv.Pairs.length c_2, iv rv_1.Hours, .slice p_3 (rv_1.Rates.set (Int.toNat 0) rv_9).length c_3, .slice p_4 rv_1.Opens.length c_4, .slice p_5 rv_1.Pairs.length c_5, iv rv_2.Hours, .slice p_6 rv_2.Rates.length c_6, .slice p_7 (rv_2.Opens.set (Int.toNat 0) (BeatOpen.mk 3 e.Hour e.Step)).length c_7, .slice p_8 rv_2.Pairs.length c_8, iv rv_3.Hours, .slice p_9 rv_3.Rates.length c_9, .slice p_10 (rv_3.Opens.set (Int.toNat 0) (BeatOpen.mk e_1.Clock 3 e_1.Step)).length c_10, .slice p_11 rv_3.Pairs.length c_11, iv rv_4.Hours, .slice p_12 rv_4.Rates.length c_12, .slice p_13 (rv_4.Opens.set (Int.toNat 0) (BeatOpen.mk e_2.Clock e_2.Hour rv_10)).length c_13, .slice p_14 rv_4.Pairs.length c_14, iv rv_5.Hours, .slice p_15 rv_5.Rates.length c_15, .slice p_16 rv_5.Opens.length c_16, .slice p_17 (rv_5.Pairs.set (Int.toNat 0) (BeatPair.mk 4 e_3.One e_3.Other e_3.Read)).length c_17, iv rv_6.Hours, .slice p_18 rv_6.Rates.length c_18, .slice p_19 rv_6.Opens.length c_19, .slice p_20 (rv_6.Pairs.set (Int.toNat 1) (BeatPair.mk e_4.Hour e_4.One 0 e_4.Read)).length c_20, iv rv_7.Hours, .slice p_21 rv_7.Rates.length c_21, .slice p_22 rv_7.Opens.length c_22, .slice p_23 (rv_7.Pairs.set (Int.toNat 1) (BeatPair.mk e_5.Hour (-1) e_5.Other e_5.Read)).length c_23, iv rv_8.Hours, .slice p_24 rv_8.Rates.length c_24, .slice p_25 rv_8.Opens.length c_25, .slice p_26 rv_8.Pairs.length c_26] 26)]) (AL rfl)).drew (fun _ _ _ _ h => h) ?_ ?_
 ·replace hS := hS.drew
  have hle0 := hS.le
  refine stepV (i := 0) rfl hF (fun w hS => Y.move hF rfl) rfl fun a hF => stepV (i := 1) rfl hF (fun w hS => Y.indexSl u_74 sz_26 hF rfl rfl (by decide) (by decide)) rfl fun a hF => stepV (i := 2) rfl hF (fun w hS => Y.fieldAddr fo_26_3 hF rfl) rfl fun a hF => stepV (i := 3) rfl hF (fun w hS => Y.load1L 28 sz_24 hF rfl hS rfl rfl) rfl fun a hF => oneV (i := 4) rfl ?_ trivial
  refine O.callP (us := [iv 0, iv 200001]) ca_37 hF hS (r0To_ok hS.stab 0 200001 rv_11 hx_17) rfl rfl fun a w hF hS => nT ⟨hS.weak (AL rfl), ?_⟩
  exact toTailV ⟨hF.weak (AF rfl), hS.weak (AL rfl)⟩
 rintro a w ⟨hF, hS⟩
 replace h := bind_some h
 obtain ⟨e_6, hx_18, h⟩ := h
 obtain ⟨b_8, hp_7⟩ := hS.ownPtr (i := 27) rfl (idx_rng hx_18)
 obtain ⟨cc_6, hc_6, hsub_6⟩ := ownElI (C := C_BeatPair) hr_26 hx_18
 obtain rfl := C_BeatPair.open hc_6
 refine step hF (Y.indexOwn hp_7 u_24 sz_61 (idx_rng hx_18) hF rfl rfl) rfl fun a hF => step hF (Y.fieldAddr fo_61_3 hF rfl) rfl fun a hF => O.storePart (C := C_BeatPair) (v0 := (BeatPair.mk e_6.Hour e_6.One e_6.Other rv_11)) (x0 := e_6) (xs := rv_8.Pairs) (us := [iv rv_11.Low, iv rv_11.High]) (k := 3) 27 hp_7 sz_34 (idx_rng hx_18) hF rfl rfl rfl rfl hx_18 (fun c0 h => by obtain rfl := C_BeatPair.open h; rfl) (show 3 + 2 ≤ 5 by decide) hS rfl hr_26 fun cs_34 a w hF hS hr_34 => ?_
 try rw [show rv_8.Pairs.length = (rv_8.Pairs.set (Int.toNat 2) (BeatPair.mk e_6.Hour e_6.One e_6.Other rv_11)).length from List.length_set.symm] at hF
 try rw [show rv_8.Pairs.length = (rv_8.Pairs.set (Int.toNat 2) (BeatPair.mk e_6.Hour e_6.One e_6.Other rv_11)).length from List.length_set.symm] at hS
 refine nT (seq (seq (region (step hF (Y.assign hF rfl) rfl fun a hF => nT (block ?_)))))
 obtain ⟨Dv_9, hlev_9, hs_27, hS⟩ := hS.freezeC (C := C_Span) (i := 1) (xs := rv.Rates) rfl hr
 replace hG := hG.mono hlev_9
 replace hr_1 := hr_1.mono hlev_9
 replace hr_2 := hr_2.mono hlev_9
 replace hr_4 := hr_4.mono hlev_9
 replace hr_5 := hr_5.mono hlev_9
 replace hr_6 := hr_6.mono hlev_9
 replace hr_8 := hr_8.mono hlev_9
 replace hr_9 := hr_9.mono hlev_9
 replace hr_11 := hr_11.mono hlev_9
 replace hr_12 := hr_12.mono hlev_9
 replace hr_14 := hr_14.mono hlev_9
 replace hr_15 := hr_15.mono hlev_9
 replace hr_16 := hr_16.mono hlev_9
 replace hr_18 := hr_18.mono hlev_9
 replace hr_19 := hr_19.mono hlev_9
 replace hr_21 := hr_21.mono hlev_9
 replace hr_22 := hr_22.mono hlev_9
 replace hr_24 := hr_24.mono hlev_9
 replace hr_25 := hr_25.mono hlev_9
 replace hr_27 := hr_27.mono hlev_9
 replace hr_28 := hr_28.mono hlev_9
 replace hr_29 := hr_29.mono hlev_9
 replace hr_30 := hr_30.mono hlev_9
 replace hr_31 := hr_31.mono hlev_9
 replace hr_32 := hr_32.mono hlev_9
 replace hr_33 := hr_33.mono hlev_9
 replace hr_34 := hr_34.mono hlev_9
 obtain ⟨Dv_10, hlev_10, hs_28, hS⟩ := hS.freezeC (C := C_BeatOpen) (i := 2) (xs := rv.Opens) rfl hr_1
 replace hG := hG.mono hlev_10
 replace hr_2 := hr_2.mono hlev_10
 replace hr_4 := hr_4.mono hlev_10
 replace hr_5 := hr_5.mono hlev_10
 replace hr_6 := hr_6.mono hlev_10
 replace hr_8 := hr_8.mono hlev_10
 replace hr_9 := hr_9.mono hlev_10
 replace hr_11 := hr_11.mono hlev_10
 replace hr_12 := hr_12.mono hlev_10
 replace hr_14 := hr_14.mono hlev_10
 replace hr_15 := hr_15.mono hlev_10
 replace hr_16 := hr_16.mono hlev_10
 replace hr_18 := hr_18.mono hlev_10
 replace hr_19 := hr_19.mono hlev_10
 replace hr_21 := hr_21.mono hlev_10
 replace hr_22 := hr_22.mono hlev_10
 replace hr_24 := hr_24.mono hlev_10
 replace hr_25 := hr_25.mono hlev_10
 replace hr_27 := hr_27.mono hlev_10
 replace hr_28 := hr_28.mono hlev_10
 replace hr_29 := hr_29.mono hlev_10
 replace hr_30 := hr_30.mono hlev_10
 replace hr_31 := hr_31.mono hlev_10
 replace hr_32 := hr_32.mono hlev_10
 replace hr_33 := hr_33.mono hlev_10
 replace hr_34 := hr_34.mono hlev_10
 replace hs_27 := hs_27.mono hlev_10
 obtain ⟨Dv_11, hlev_11, hs_29, hS⟩ := hS.freezeC (C := C_BeatPair) (i := 3) (xs := rv.Pairs) rfl hr_2
 replace hG := hG.mono hlev_11
 replace hr_4 := hr_4.mono hlev_11
 replace hr_5 := hr_5.mono hlev_11
 replace hr_6 := hr_6.mono hlev_11
 replace hr_8 := hr_8.mono hlev_11
 replace hr_9 := hr_9.mono hlev_11
 replace hr_11 := hr_11.mono hlev_11
 replace hr_12 := hr_12.mono hlev_11
 replace hr_14 := hr_14.mono hlev_11
 replace hr_15 := hr_15.mono hlev_11
 replace hr_16 := hr_16.mono hlev_11
 replace hr_18 := hr_18.mono hlev_11
 replace hr_19 := hr_19.mono hlev_11
 replace hr_21 := hr_21.mono hlev_11
 replace hr_22 := hr_22.mono hlev_11
 replace hr_24 := hr_24.mono hlev_11
 replace hr_25 := hr_25.mono hlev_11
 replace hr_27 := hr_27.mono hlev_11
 replace hr_28 := hr_28.mono hlev_11
 replace hr_29 := hr_29.mono hlev_11
 replace hr_30 := hr_30.mono hlev_11
 replace hr_31 := hr_31.mono hlev_11
 replace hr_32 := hr_32.mono hlev_11
 replace hr_33 := hr_33.mono hlev_11
 replace hr_34 := hr_34.mono hlev_11
 replace hs_27 := hs_27.mono hlev_11
 replace hs_28 := hs_28.mono hlev_11
 obtain ⟨Dv_12, hlev_12, hs_30, hS⟩ := hS.freezeC (C := C_Span) (i := 4) (xs := (rv_1.Rates.set (Int.toNat 0) rv_9)) rfl hr_27
 replace hG := hG.mono hlev_12
 replace hr_4 := hr_4.mono hlev_12
 replace hr_5 := hr_5.mono hlev_12
 replace hr_6 := hr_6.mono hlev_12
 replace hr_8 := hr_8.mono hlev_12
 replace hr_9 := hr_9.mono hlev_12
 replace hr_11 := hr_11.mono hlev_12
 replace hr_12 := hr_12.mono hlev_12
 replace hr_14 := hr_14.mono hlev_12
 replace hr_15 := hr_15.mono hlev_12
 replace hr_16 := hr_16.mono hlev_12
 replace hr_18 := hr_18.mono hlev_12
 replace hr_19 := hr_19.mono hlev_12
 replace hr_21 := hr_21.mono hlev_12
 replace hr_22 := hr_22.mono hlev_12
 replace hr_24 := hr_24.mono hlev_12
 replace hr_25 := hr_25.mono hlev_12
 replace hr_28 := hr_28.mono hlev_12
 replace hr_29 := hr_29.mono hlev_12
 replace hr_30 := hr_30.mono hlev_12
 replace hr_31 := hr_31.mono hlev_12
 replace hr_32 := hr_32.mono hlev_12
 replace hr_33 := hr_33.mono hlev_12
 replace hr_34 := hr_34.mono hlev_12
 replace hs_27 := hs_27.mono hlev_12
 replace hs_28 := hs_28.mono hlev_12
 replace hs_29 := hs_29.mono hlev_12
 obtain ⟨Dv_13, hlev_13, hs_31, hS⟩ := hS.freezeC (C := C_BeatOpen) (i := 5) (xs := rv_1.Opens) rfl hr_4
 replace hG := hG.mono hlev_13
 replace hr_5 := hr_5.mono hlev_13
 replace hr_6 := hr_6.mono hlev_13
 replace hr_8 := hr_8.mono hlev_13
 replace hr_9 := hr_9.mono hlev_13
 replace hr_11 := hr_11.mono hlev_13
 replace hr_12 := hr_12.mono hlev_13
 replace hr_14 := hr_14.mono hlev_13
 replace hr_15 := hr_15.mono hlev_13
 replace hr_16 := hr_16.mono hlev_13
 replace hr_18 := hr_18.mono hlev_13
 replace hr_19 := hr_19.mono hlev_13
 replace hr_21 := hr_21.mono hlev_13
 replace hr_22 := hr_22.mono hlev_13
 replace hr_24 := hr_24.mono hlev_13
 replace hr_25 := hr_25.mono hlev_13
 replace hr_28 := hr_28.mono hlev_13
 replace hr_29 := hr_29.mono hlev_13
 replace hr_30 := hr_30.mono hlev_13
 replace hr_31 := hr_31.mono hlev_13
 replace hr_32 := hr_32.mono hlev_13
 replace hr_33 := hr_33.mono hlev_13
 replace hr_34 := hr_34.mono hlev_13
 replace hs_27 := hs_27.mono hlev_13
 replace hs_28 := hs_28.mono hlev_13
 replace hs_29 := hs_29.mono hlev_13
 replace hs_30 := hs_30.mono hlev_13
 obtain ⟨Dv_14, hlev_14, hs_32, hS⟩ := hS.freezeC (C := C_BeatPair) (i := 6) (xs := rv_1.Pairs) rfl hr_5
 replace hG := hG.mono hlev_14
 replace hr_6 := hr_6.mono hlev_14
 replace hr_8 := hr_8.mono hlev_14
 replace hr_9 := hr_9.mono hlev_14
 replace hr_11 := hr_11.mono hlev_14
 replace hr_12 := hr_12.mono hlev_14
 replace hr_14 := hr_14.mono hlev_14
 replace hr_15 := hr_15.mono hlev_14
 replace hr_16 := hr_16.mono hlev_14
 replace hr_18 := hr_18.mono hlev_14
 replace hr_19 := hr_19.mono hlev_14
 replace hr_21 := hr_21.mono hlev_14
 replace hr_22 := hr_22.mono hlev_14
 replace hr_24 := hr_24.mono hlev_14
 replace hr_25 := hr_25.mono hlev_14
 replace hr_28 := hr_28.mono hlev_14
 replace hr_29 := hr_29.mono hlev_14
 replace hr_30 := hr_30.mono hlev_14
 replace hr_31 := hr_31.mono hlev_14
 replace hr_32 := hr_32.mono hlev_14
 replace hr_33 := hr_33.mono hlev_14
 replace hr_34 := hr_34.mono hlev_14
 replace hs_27 := hs_27.mono hlev_14
 replace hs_28 := hs_28.mono hlev_14
 replace hs_29 := hs_29.mono hlev_14
 replace hs_30 := hs_30.mono hlev_14
 replace hs_31 := hs_31.mono hlev_14
 obtain ⟨Dv_15, hlev_15, hs_33, hS⟩ := hS.freezeC (C := C_Span) (i := 7) (xs := rv_2.Rates) rfl hr_6
 replace hG := hG.mono hlev_15
 replace hr_8 := hr_8.mono hlev_15
 replace hr_9 := hr_9.mono hlev_15
 replace hr_11 := hr_11.mono hlev_15
 replace hr_12 := hr_12.mono hlev_15
 replace hr_14 := hr_14.mono hlev_15
 replace hr_15 := hr_15.mono hlev_15
 replace hr_16 := hr_16.mono hlev_15
 replace hr_18 := hr_18.mono hlev_15
 replace hr_19 := hr_19.mono hlev_15
 replace hr_21 := hr_21.mono hlev_15
 replace hr_22 := hr_22.mono hlev_15
 replace hr_24 := hr_24.mono hlev_15
 replace hr_25 := hr_25.mono hlev_15
 replace hr_28 := hr_28.mono hlev_15
 replace hr_29 := hr_29.mono hlev_15
 replace hr_30 := hr_30.mono hlev_15
 replace hr_31 := hr_31.mono hlev_15
 replace hr_32 := hr_32.mono hlev_15
 replace hr_33 := hr_33.mono hlev_15
 replace hr_34 := hr_34.mono hlev_15
 replace hs_27 := hs_27.mono hlev_15
 replace hs_28 := hs_28.mono hlev_15
 replace hs_29 := hs_29.mono hlev_15
 replace hs_30 := hs_30.mono hlev_15
 replace hs_31 := hs_31.mono hlev_15
 replace hs_32 := hs_32.mono hlev_15
 obtain ⟨Dv_16, hlev_16, hs_34, hS⟩ := hS.freezeC (C := C_BeatOpen) (i := 8) (xs := (rv_2.Opens.set (Int.toNat 0) (BeatOpen.mk 3 e.Hour e.Step))) rfl hr_28
 replace hG := hG.mono hlev_16
 replace hr_8 := hr_8.mono hlev_16
 replace hr_9 := hr_9.mono hlev_16
 replace hr_11 := hr_11.mono hlev_16
 replace hr_12 := hr_12.mono hlev_16
 replace hr_14 := hr_14.mono hlev_16
 replace hr_15 := hr_15.mono hlev_16
 replace hr_16 := hr_16.mono hlev_16
 replace hr_18 := hr_18.mono hlev_16
 replace hr_19 := hr_19.mono hlev_16
 replace hr_21 := hr_21.mono hlev_16
 replace hr_22 := hr_22.mono hlev_16
 replace hr_24 := hr_24.mono hlev_16
 replace hr_25 := hr_25.mono hlev_16
 replace hr_29 := hr_29.mono hlev_16
 replace hr_30 := hr_30.mono hlev_16
 replace hr_31 := hr_31.mono hlev_16
 replace hr_32 := hr_32.mono hlev_16
 replace hr_33 := hr_33.mono hlev_16
 replace hr_34 := hr_34.mono hlev_16
 replace hs_27 := hs_27.mono hlev_16
 replace hs_28 := hs_28.mono hlev_16
 replace hs_29 := hs_29.mono hlev_16
 replace hs_30 := hs_30.mono hlev_16
 replace hs_31 := hs_31.mono hlev_16
 replace hs_32 := hs_32.mono hlev_16
 replace hs_33 := hs_33.mono hlev_16
 obtain ⟨Dv_17, hlev_17, hs_35, hS⟩ := hS.freezeC (C := C_BeatPair) (i := 9) (xs := rv_2.Pairs) rfl hr_8
 replace hG := hG.mono hlev_17
 replace hr_9 := hr_9.mono hlev_17
 replace hr_11 := hr_11.mono hlev_17
 replace hr_12 := hr_12.mono hlev_17
 replace hr_14 := hr_14.mono hlev_17
 replace hr_15 := hr_15.mono hlev_17
 replace hr_16 := hr_16.mono hlev_17
 replace hr_18 := hr_18.mono hlev_17
 replace hr_19 := hr_19.mono hlev_17
 replace hr_21 := hr_21.mono hlev_17
 replace hr_22 := hr_22.mono hlev_17
 replace hr_24 := hr_24.mono hlev_17
 replace hr_25 := hr_25.mono hlev_17
 replace hr_29 := hr_29.mono hlev_17
 replace hr_30 := hr_30.mono hlev_17
 replace hr_31 := hr_31.mono hlev_17
 replace hr_32 := hr_32.mono hlev_17
 replace hr_33 := hr_33.mono hlev_17
 replace hr_34 := hr_34.mono hlev_17
 replace hs_27 := hs_27.mono hlev_17
 replace hs_28 := hs_28.mono hlev_17
 replace hs_29 := hs_29.mono hlev_17
 replace hs_30 := hs_30.mono hlev_17
 replace hs_31 := hs_31.mono hlev_17
 replace hs_32 := hs_32.mono hlev_17
 replace hs_33 := hs_33.mono hlev_17
 replace hs_34 := hs_34.mono hlev_17
 obtain ⟨Dv_18, hlev_18, hs_36, hS⟩ := hS.freezeC (C := C_Span) (i := 10) (xs := rv_3.Rates) rfl hr_9
 replace hG := hG.mono hlev_18
 replace hr_11 := hr_11.mono hlev_18
 replace hr_12 := hr_12.mono hlev_18
 replace hr_14 := hr_14.mono hlev_18
 replace hr_15 := hr_15.mono hlev_18
 replace hr_16 := hr_16.mono hlev_18
 replace hr_18 := hr_18.mono hlev_18
 replace hr_19 := hr_19.mono hlev_18
 replace hr_21 := hr_21.mono hlev_18
 replace hr_22 := hr_22.mono hlev_18
 replace hr_24 := hr_24.mono hlev_18
 replace hr_25 := hr_25.mono hlev_18
 replace hr_29 := hr_29.mono hlev_18
 replace hr_30 := hr_30.mono hlev_18
 replace hr_31 := hr_31.mono hlev_18
 replace hr_32 := hr_32.mono hlev_18
 replace hr_33 := hr_33.mono hlev_18
 replace hr_34 := hr_34.mono hlev_18
 replace hs_27 := hs_27.mono hlev_18
 replace hs_28 := hs_28.mono hlev_18
 replace hs_29 := hs_29.mono hlev_18
 replace hs_30 := hs_30.mono hlev_18
 replace hs_31 := hs_31.mono hlev_18
 replace hs_32 := hs_32.mono hlev_18
 replace hs_33 := hs_33.mono hlev_18
 replace hs_34 := hs_34.mono hlev_18
 replace hs_35 := hs_35.mono hlev_18
 obtain ⟨Dv_19, hlev_19, hs_37, hS⟩ := hS.freezeC (C := C_BeatOpen) (i := 11) (xs := (rv_3.Opens.set (Int.toNat 0) (BeatOpen.mk e_1.Clock 3 e_1.Step))) rfl hr_29
 replace hG := hG.mono hlev_19
 replace hr_11 := hr_11.mono hlev_19
 replace hr_12 := hr_12.mono hlev_19
 replace hr_14 := hr_14.mono hlev_19
 replace hr_15 := hr_15.mono hlev_19
 replace hr_16 := hr_16.mono hlev_19
 replace hr_18 := hr_18.mono hlev_19
 replace hr_19 := hr_19.mono hlev_19
 replace hr_21 := hr_21.mono hlev_19
 replace hr_22 := hr_22.mono hlev_19
 replace hr_24 := hr_24.mono hlev_19
 replace hr_25 := hr_25.mono hlev_19
 replace hr_30 := hr_30.mono hlev_19
 replace hr_31 := hr_31.mono hlev_19
 replace hr_32 := hr_32.mono hlev_19
 replace hr_33 := hr_33.mono hlev_19
 replace hr_34 := hr_34.mono hlev_19
 replace hs_27 := hs_27.mono hlev_19
 replace hs_28 := hs_28.mono hlev_19
 replace hs_29 := hs_29.mono hlev_19
 replace hs_30 := hs_30.mono hlev_19
 replace hs_31 := hs_31.mono hlev_19
 replace hs_32 := hs_32.mono hlev_19
 replace hs_33 := hs_33.mono hlev_19
 replace hs_34 := hs_34.mono hlev_19
 replace hs_35 := hs_35.mono hlev_19
 replace hs_36 := hs_36.mono hlev_19
 obtain ⟨Dv_20, hlev_20, hs_38, hS⟩ := hS.freezeC (C := C_BeatPair) (i := 12) (xs := rv_3.Pairs) rfl hr_11
 replace hG := hG.mono hlev_20
 replace hr_12 := hr_12.mono hlev_20
 replace hr_14 := hr_14.mono hlev_20
 replace hr_15 := hr_15.mono hlev_20
 replace hr_16 := hr_16.mono hlev_20
 replace hr_18 := hr_18.mono hlev_20
 replace hr_19 := hr_19.mono hlev_20
 replace hr_21 := hr_21.mono hlev_20
 replace hr_22 := hr_22.mono hlev_20
 replace hr_24 := hr_24.mono hlev_20
 replace hr_25 := hr_25.mono hlev_20
 replace hr_30 := hr_30.mono hlev_20
 replace hr_31 := hr_31.mono hlev_20
 replace hr_32 := hr_32.mono hlev_20
 replace hr_33 := hr_33.mono hlev_20
 replace hr_34 := hr_34.mono hlev_20
 replace hs_27 := hs_27.mono hlev_20
 replace hs_28 := hs_28.mono hlev_20
 replace hs_29 := hs_29.mono hlev_20
 replace hs_30 := hs_30.mono hlev_20
 replace hs_31 := hs_31.mono hlev_20
 replace hs_32 := hs_32.mono hlev_20
 replace hs_33 := hs_33.mono hlev_20
 replace hs_34 := hs_34.mono hlev_20
 replace hs_35 := hs_35.mono hlev_20
 replace hs_36 := hs_36.mono hlev_20
 replace hs_37 := hs_37.mono hlev_20
 obtain ⟨Dv_21, hlev_21, hs_39, hS⟩ := hS.freezeC (C := C_Span) (i := 13) (xs := rv_4.Rates) rfl hr_12
 replace hG := hG.mono hlev_21
 replace hr_14 := hr_14.mono hlev_21
 replace hr_15 := hr_15.mono hlev_21
 replace hr_16 := hr_16.mono hlev_21
 replace hr_18 := hr_18.mono hlev_21
 replace hr_19 := hr_19.mono hlev_21
 replace hr_21 := hr_21.mono hlev_21
 replace hr_22 := hr_22.mono hlev_21
 replace hr_24 := hr_24.mono hlev_21
 replace hr_25 := hr_25.mono hlev_21
 replace hr_30 := hr_30.mono hlev_21
 replace hr_31 := hr_31.mono hlev_21
 replace hr_32 := hr_32.mono hlev_21
 replace hr_33 := hr_33.mono hlev_21
 replace hr_34 := hr_34.mono hlev_21
 replace hs_27 := hs_27.mono hlev_21
 replace hs_28 := hs_28.mono hlev_21
 replace hs_29 := hs_29.mono hlev_21
 replace hs_30 := hs_30.mono hlev_21
 replace hs_31 := hs_31.mono hlev_21
 replace hs_32 := hs_32.mono hlev_21
 replace hs_33 := hs_33.mono hlev_21
 replace hs_34 := hs_34.mono hlev_21
 replace hs_35 := hs_35.mono hlev_21
 replace hs_36 := hs_36.mono hlev_21
 replace hs_37 := hs_37.mono hlev_21
 replace hs_38 := hs_38.mono hlev_21
 obtain ⟨Dv_22, hlev_22, hs_40, hS⟩ := hS.freezeC (C := C_BeatOpen) (i := 14) (xs := (rv_4.Opens.set (Int.toNat 0) (BeatOpen.mk e_2.Clock e_2.Hour rv_10))) rfl hr_30
 replace hG := hG.mono hlev_22
 replace hr_14 := hr_14.mono hlev_22
 replace hr_15 := hr_15.mono hlev_22
 replace hr_16 := hr_16.mono hlev_22
 replace hr_18 := hr_18.mono hlev_22
 replace hr_19 := hr_19.mono hlev_22
 replace hr_21 := hr_21.mono hlev_22
 replace hr_22 := hr_22.mono hlev_22
 replace hr_24 := hr_24.mono hlev_22
 replace hr_25 := hr_25.mono hlev_22
 replace hr_31 := hr_31.mono hlev_22
 replace hr_32 := hr_32.mono hlev_22
 replace hr_33 := hr_33.mono hlev_22
 replace hr_34 := hr_34.mono hlev_22
 replace hs_27 := hs_27.mono hlev_22
 replace hs_28 := hs_28.mono hlev_22
 replace hs_29 := hs_29.mono hlev_22
 replace hs_30 := hs_30.mono hlev_22
 replace hs_31 := hs_31.mono hlev_22
 replace hs_32 := hs_32.mono hlev_22
 replace hs_33 := hs_33.mono hlev_22
 replace hs_34 := hs_34.mono hlev_22
 replace hs_35 := hs_35.mono hlev_22
 replace hs_36 := hs_36.mono hlev_22
 replace hs_37 := hs_37.mono hlev_22
 replace hs_38 := hs_38.mono hlev_22
 replace hs_39 := hs_39.mono hlev_22
 obtain ⟨Dv_23, hlev_23, hs_41, hS⟩ := hS.freezeC (C := C_BeatPair) (i := 15) (xs := rv_4.Pairs) rfl hr_14
 replace hG := hG.mono hlev_23
 replace hr_15 := hr_15.mono hlev_23
 replace hr_16 := hr_16.mono hlev_23
 replace hr_18 := hr_18.mono hlev_23
 replace hr_19 := hr_19.mono hlev_23
 replace hr_21 := hr_21.mono hlev_23
 replace hr_22 := hr_22.mono hlev_23
 replace hr_24 := hr_24.mono hlev_23
 replace hr_25 := hr_25.mono hlev_23
 replace hr_31 := hr_31.mono hlev_23
 replace hr_32 := hr_32.mono hlev_23
 replace hr_33 := hr_33.mono hlev_23
 replace hr_34 := hr_34.mono hlev_23
 replace hs_27 := hs_27.mono hlev_23
 replace hs_28 := hs_28.mono hlev_23
 replace hs_29 := hs_29.mono hlev_23
 replace hs_30 := hs_30.mono hlev_23
 replace hs_31 := hs_31.mono hlev_23
 replace hs_32 := hs_32.mono hlev_23
 replace hs_33 := hs_33.mono hlev_23
 replace hs_34 := hs_34.mono hlev_23
 replace hs_35 := hs_35.mono hlev_23
 replace hs_36 := hs_36.mono hlev_23
 replace hs_37 := hs_37.mono hlev_23
 replace hs_38 := hs_38.mono hlev_23
 replace hs_39 := hs_39.mono hlev_23
 replace hs_40 := hs_40.mono hlev_23
 obtain ⟨Dv_24, hlev_24, hs_42, hS⟩ := hS.freezeC (C := C_Span) (i := 16) (xs := rv_5.Rates) rfl hr_15
 replace hG := hG.mono hlev_24
 replace hr_16 := hr_16.mono hlev_24
 replace hr_18 := hr_18.mono hlev_24
 replace hr_19 := hr_19.mono hlev_24
 replace hr_21 := hr_21.mono hlev_24
 replace hr_22 := hr_22.mono hlev_24
 replace hr_24 := hr_24.mono hlev_24
 replace hr_25 := hr_25.mono hlev_24
 replace hr_31 := hr_31.mono hlev_24
 replace hr_32 := hr_32.mono hlev_24
 replace hr_33 := hr_33.mono hlev_24
 replace hr_34 := hr_34.mono hlev_24
 replace hs_27 := hs_27.mono hlev_24
 replace hs_28 := hs_28.mono hlev_24
 replace hs_29 := hs_29.mono hlev_24
 replace hs_30 := hs_30.mono hlev_24
 replace hs_31 := hs_31.mono hlev_24
 replace hs_32 := hs_32.mono hlev_24
 replace hs_33 := hs_33.mono hlev_24
 replace hs_34 := hs_34.mono hlev_24
 replace hs_35 := hs_35.mono hlev_24
 replace hs_36 := hs_36.mono hlev_24
 replace hs_37 := hs_37.mono hlev_24
 replace hs_38 := hs_38.mono hlev_24
 replace hs_39 := hs_39.mono hlev_24
 replace hs_40 := hs_40.mono hlev_24
 replace hs_41 := hs_41.mono hlev_24
 obtain ⟨Dv_25, hlev_25, hs_43, hS⟩ := hS.freezeC (C := C_BeatOpen) (i := 17) (xs := rv_5.Opens) rfl hr_16
 replace hG := hG.mono hlev_25
 replace hr_18 := hr_18.mono hlev_25
 replace hr_19 := hr_19.mono hlev_25
 replace hr_21 := hr_21.mono hlev_25
 replace hr_22 := hr_22.mono hlev_25
 replace hr_24 := hr_24.mono hlev_25
 replace hr_25 := hr_25.mono hlev_25
 replace hr_31 := hr_31.mono hlev_25
 replace hr_32 := hr_32.mono hlev_25
 replace hr_33 := hr_33.mono hlev_25
 replace hr_34 := hr_34.mono hlev_25
 replace hs_27 := hs_27.mono hlev_25
 replace hs_28 := hs_28.mono hlev_25
 replace hs_29 := hs_29.mono hlev_25
 replace hs_30 := hs_30.mono hlev_25
 replace hs_31 := hs_31.mono hlev_25
 replace hs_32 := hs_32.mono hlev_25
 replace hs_33 := hs_33.mono hlev_25
 replace hs_34 := hs_34.mono hlev_25
 replace hs_35 := hs_35.mono hlev_25
 replace hs_36 := hs_36.mono hlev_25
 replace hs_37 := hs_37.mono hlev_25
 replace hs_38 := hs_38.mono hlev_25
 replace hs_39 := hs_39.mono hlev_25
 replace hs_40 := hs_40.mono hlev_25
 replace hs_41 := hs_41.mono hlev_25
 replace hs_42 := hs_42.mono hlev_25
 obtain ⟨Dv_26, hlev_26, hs_44, hS⟩ := hS.freezeC (C := C_BeatPair) (i := 18) (xs := (rv_5.Pairs.set (Int.toNat 0) (BeatPair.mk 4 e_3.One e_3.Other e_3.Read))) rfl hr_31
 replace hG := hG.mono hlev_26
 replace hr_18 := hr_18.mono hlev_26
 replace hr_19 := hr_19.mono hlev_26
 replace hr_21 := hr_21.mono hlev_26
 replace hr_22 := hr_22.mono hlev_26
 replace hr_24 := hr_24.mono hlev_26
 replace hr_25 := hr_25.mono hlev_26
 replace hr_32 := hr_32.mono hlev_26
 replace hr_33 := hr_33.mono hlev_26
 replace hr_34 := hr_34.mono hlev_26
 replace hs_27 := hs_27.mono hlev_26
 replace hs_28 := hs_28.mono hlev_26
 replace hs_29 := hs_29.mono hlev_26
 replace hs_30 := hs_30.mono hlev_26
 replace hs_31 := hs_31.mono hlev_26
 replace hs_32 := hs_32.mono hlev_26
 replace hs_33 := hs_33.mono hlev_26
 replace hs_34 := hs_34.mono hlev_26
 replace hs_35 := hs_35.mono hlev_26
 replace hs_36 := hs_36.mono hlev_26
 replace hs_37 := hs_37.mono hlev_26
 replace hs_38 := hs_38.mono hlev_26
 replace hs_39 := hs_39.mono hlev_26
 replace hs_40 := hs_40.mono hlev_26
 replace hs_41 := hs_41.mono hlev_26
 replace hs_42 := hs_42.mono hlev_26
 replace hs_43 := hs_43.mono hlev_26
 obtain ⟨Dv_27, hlev_27, hs_45, hS⟩ := hS.freezeC (C := C_Span) (i := 19) (xs := rv_6.Rates) rfl hr_18
 replace hG := hG.mono hlev_27
 replace hr_19 := hr_19.mono hlev_27
 replace hr_21 := hr_21.mono hlev_27
 replace hr_22 := hr_22.mono hlev_27
 replace hr_24 := hr_24.mono hlev_27
 replace hr_25 := hr_25.mono hlev_27
 replace hr_32 := hr_32.mono hlev_27
 replace hr_33 := hr_33.mono hlev_27
 replace hr_34 := hr_34.mono hlev_27
 replace hs_27 := hs_27.mono hlev_27
 replace hs_28 := hs_28.mono hlev_27
 replace hs_29 := hs_29.mono hlev_27
 replace hs_30 := hs_30.mono hlev_27
 replace hs_31 := hs_31.mono hlev_27
 replace hs_32 := hs_32.mono hlev_27
 replace hs_33 := hs_33.mono hlev_27
 replace hs_34 := hs_34.mono hlev_27
 replace hs_35 := hs_35.mono hlev_27
 replace hs_36 := hs_36.mono hlev_27
 replace hs_37 := hs_37.mono hlev_27
 replace hs_38 := hs_38.mono hlev_27
 replace hs_39 := hs_39.mono hlev_27
 replace hs_40 := hs_40.mono hlev_27
 replace hs_41 := hs_41.mono hlev_27
 replace hs_42 := hs_42.mono hlev_27
 replace hs_43 := hs_43.mono hlev_27
 replace hs_44 := hs_44.mono hlev_27
 obtain ⟨Dv_28, hlev_28, hs_46, hS⟩ := hS.freezeC (C := C_BeatOpen) (i := 20) (xs := rv_6.Opens) rfl hr_19
 replace hG := hG.mono hlev_28
 replace hr_21 := hr_21.mono hlev_28
 replace hr_22 := hr_22.mono hlev_28
 replace hr_24 := hr_24.mono hlev_28
 replace hr_25 := hr_25.mono hlev_28
 replace hr_32 := hr_32.mono hlev_28
 replace hr_33 := hr_33.mono hlev_28
 replace hr_34 := hr_34.mono hlev_28
 replace hs_27 := hs_27.mono hlev_28
 replace hs_28 := hs_28.mono hlev_28
 replace hs_29 := hs_29.mono hlev_28
 replace hs_30 := hs_30.mono hlev_28
 replace hs_31 := hs_31.mono hlev_28
 replace hs_32 := hs_32.mono hlev_28
 replace hs_33 := hs_33.mono hlev_28
 replace hs_34 := hs_34.mono hlev_28
 replace hs_35 := hs_35.mono hlev_28
 replace hs_36 := hs_36.mono hlev_28
 replace hs_37 := hs_37.mono hlev_28
 replace hs_38 := hs_38.mono hlev_28
 replace hs_39 := hs_39.mono hlev_28
 replace hs_40 := hs_40.mono hlev_28
 replace hs_41 := hs_41.mono hlev_28
 replace hs_42 := hs_42.mono hlev_28
 replace hs_43 := hs_43.mono hlev_28
 replace hs_44 := hs_44.mono hlev_28
 replace hs_45 := hs_45.mono hlev_28
 obtain ⟨Dv_29, hlev_29, hs_47, hS⟩ := hS.freezeC (C := C_BeatPair) (i := 21) (xs := (rv_6.Pairs.set (Int.toNat 1) (BeatPair.mk e_4.Hour e_4.One 0 e_4.Read))) rfl hr_32
 replace hG := hG.mono hlev_29
 replace hr_21 := hr_21.mono hlev_29
 replace hr_22 := hr_22.mono hlev_29
 replace hr_24 := hr_24.mono hlev_29
 replace hr_25 := hr_25.mono hlev_29
 replace hr_33 := hr_33.mono hlev_29
 replace hr_34 := hr_34.mono hlev_29
 replace hs_27 := hs_27.mono hlev_29
 replace hs_28 := hs_28.mono hlev_29
 replace hs_29 := hs_29.mono hlev_29
 replace hs_30 := hs_30.mono hlev_29
 replace hs_31 := hs_31.mono hlev_29
 replace hs_32 := hs_32.mono hlev_29
 replace hs_33 := hs_33.mono hlev_29
 replace hs_34 := hs_34.mono hlev_29
 replace hs_35 := hs_35.mono hlev_29
 replace hs_36 := hs_36.mono hlev_29
 replace hs_37 := hs_37.mono hlev_29
 replace hs_38 := hs_38.mono hlev_29
 replace hs_39 := hs_39.mono hlev_29
 replace hs_40 := hs_40.mono hlev_29
 replace hs_41 := hs_41.mono hlev_29
 replace hs_42 := hs_42.mono hlev_29
 replace hs_43 := hs_43.mono hlev_29
 replace hs_44 := hs_44.mono hlev_29
 replace hs_45 := hs_45.mono hlev_29
 replace hs_46 := hs_46.mono hlev_29
 obtain ⟨Dv_30, hlev_30, hs_48, hS⟩ := hS.freezeC (C := C_Span) (i := 22) (xs := rv_7.Rates) rfl hr_21
 replace hG := hG.mono hlev_30
 replace hr_22 := hr_22.mono hlev_30
 replace hr_24 := hr_24.mono hlev_30
 replace hr_25 := hr_25.mono hlev_30
 replace hr_33 := hr_33.mono hlev_30
 replace hr_34 := hr_34.mono hlev_30
 replace hs_27 := hs_27.mono hlev_30
 replace hs_28 := hs_28.mono hlev_30
 replace hs_29 := hs_29.mono hlev_30
 replace hs_30 := hs_30.mono hlev_30
 replace hs_31 := hs_31.mono hlev_30
 replace hs_32 := hs_32.mono hlev_30
 replace hs_33 := hs_33.mono hlev_30
 replace hs_34 := hs_34.mono hlev_30
 replace hs_35 := hs_35.mono hlev_30
 replace hs_36 := hs_36.mono hlev_30
 replace hs_37 := hs_37.mono hlev_30
 replace hs_38 := hs_38.mono hlev_30
 replace hs_39 := hs_39.mono hlev_30
 replace hs_40 := hs_40.mono hlev_30
 replace hs_41 := hs_41.mono hlev_30
 replace hs_42 := hs_42.mono hlev_30
 replace hs_43 := hs_43.mono hlev_30
 replace hs_44 := hs_44.mono hlev_30
 replace hs_45 := hs_45.mono hlev_30
 replace hs_46 := hs_46.mono hlev_30
 replace hs_47 := hs_47.mono hlev_30
 obtain ⟨Dv_31, hlev_31, hs_49, hS⟩ := hS.freezeC (C := C_BeatOpen) (i := 23) (xs := rv_7.Opens) rfl hr_22
 replace hG := hG.mono hlev_31
 replace hr_24 := hr_24.mono hlev_31
 replace hr_25 := hr_25.mono hlev_31
 replace hr_33 := hr_33.mono hlev_31
 replace hr_34 := hr_34.mono hlev_31
 replace hs_27 := hs_27.mono hlev_31
 replace hs_28 := hs_28.mono hlev_31
 replace hs_29 := hs_29.mono hlev_31
 replace hs_30 := hs_30.mono hlev_31
 replace hs_31 := hs_31.mono hlev_31
 replace hs_32 := hs_32.mono hlev_31
 replace hs_33 := hs_33.mono hlev_31
 replace hs_34 := hs_34.mono hlev_31
 replace hs_35 := hs_35.mono hlev_31
 replace hs_36 := hs_36.mono hlev_31
 replace hs_37 := hs_37.mono hlev_31
 replace hs_38 := hs_38.mono hlev_31
 replace hs_39 := hs_39.mono hlev_31
 replace hs_40 := hs_40.mono hlev_31
 replace hs_41 := hs_41.mono hlev_31
 replace hs_42 := hs_42.mono hlev_31
 replace hs_43 := hs_43.mono hlev_31
 replace hs_44 := hs_44.mono hlev_31
 replace hs_45 := hs_45.mono hlev_31
 replace hs_46 := hs_46.mono hlev_31
 replace hs_47 := hs_47.mono hlev_31
 replace hs_48 := hs_48.mono hlev_31
 obtain ⟨Dv_32, hlev_32, hs_50, hS⟩ := hS.freezeC (C := C_BeatPair) (i := 24) (xs := (rv_7.Pairs.set (Int.toNat 1) (BeatPair.mk e_5.Hour (-1) e_5.Other e_5.Read))) rfl hr_33
 replace hG := hG.mono hlev_32
 replace hr_24 := hr_24.mono hlev_32
 replace hr_25 := hr_25.mono hlev_32
 replace hr_34 := hr_34.mono hlev_32
 replace hs_27 := hs_27.mono hlev_32
 replace hs_28 := hs_28.mono hlev_32
 replace hs_29 := hs_29.mono hlev_32
 replace hs_30 := hs_30.mono hlev_32
 replace hs_31 := hs_31.mono hlev_32
 replace hs_32 := hs_32.mono hlev_32
 replace hs_33 := hs_33.mono hlev_32
 replace hs_34 := hs_34.mono hlev_32
 replace hs_35 := hs_35.mono hlev_32
 replace hs_36 := hs_36.mono hlev_32
 replace hs_37 := hs_37.mono hlev_32
 replace hs_38 := hs_38.mono hlev_32
 replace hs_39 := hs_39.mono hlev_32
 replace hs_40 := hs_40.mono hlev_32
 replace hs_41 := hs_41.mono hlev_32
 replace hs_42 := hs_42.mono hlev_32
 replace hs_43 := hs_43.mono hlev_32
 replace hs_44 := hs_44.mono hlev_32
 replace hs_45 := hs_45.mono hlev_32
 replace hs_46 := hs_46.mono hlev_32
 replace hs_47 := hs_47.mono hlev_32
 replace hs_48 := hs_48.mono hlev_32
 replace hs_49 := hs_49.mono hlev_32
 obtain ⟨Dv_33, hlev_33, hs_51, hS⟩ := hS.freezeC (C := C_Span) (i := 25) (xs := rv_8.Rates) rfl hr_24
 replace hG := hG.mono hlev_33
 replace hr_25 := hr_25.mono hlev_33
 replace hr_34 := hr_34.mono hlev_33
 replace hs_27 := hs_27.mono hlev_33
 replace hs_28 := hs_28.mono hlev_33
 replace hs_29 := hs_29.mono hlev_33
 replace hs_30 := hs_30.mono hlev_33
 replace hs_31 := hs_31.mono hlev_33
 replace hs_32 := hs_32.mono hlev_33
 replace hs_33 := hs_33.mono hlev_33
 replace hs_34 := hs_34.mono hlev_33
 replace hs_35 := hs_35.mono hlev_33
 replace hs_36 := hs_36.mono hlev_33
 replace hs_37 := hs_37.mono hlev_33
 replace hs_38 := hs_38.mono hlev_33
 replace hs_39 := hs_39.mono hlev_33
 replace hs_40 := hs_40.mono hlev_33
 replace hs_41 := hs_41.mono hlev_33
 replace hs_42 := hs_42.mono hlev_33
 replace hs_43 := hs_43.mono hlev_33
 replace hs_44 := hs_44.mono hlev_33
 replace hs_45 := hs_45.mono hlev_33
 replace hs_46 := hs_46.mono hlev_33
 replace hs_47 := hs_47.mono hlev_33
 replace hs_48 := hs_48.mono hlev_33
 replace hs_49 := hs_49.mono hlev_33
 replace hs_50 := hs_50.mono hlev_33
 obtain ⟨Dv_34, hlev_34, hs_52, hS⟩ := hS.freezeC (C := C_BeatOpen) (i := 26) (xs := rv_8.Opens) rfl hr_25
 replace hG := hG.mono hlev_34
 replace hr_34 := hr_34.mono hlev_34
 replace hs_27 := hs_27.mono hlev_34
 replace hs_28 := hs_28.mono hlev_34
 replace hs_29 := hs_29.mono hlev_34
 replace hs_30 := hs_30.mono hlev_34
 replace hs_31 := hs_31.mono hlev_34
 replace hs_32 := hs_32.mono hlev_34
 replace hs_33 := hs_33.mono hlev_34
 replace hs_34 := hs_34.mono hlev_34
 replace hs_35 := hs_35.mono hlev_34
 replace hs_36 := hs_36.mono hlev_34
 replace hs_37 := hs_37.mono hlev_34
 replace hs_38 := hs_38.mono hlev_34
 replace hs_39 := hs_39.mono hlev_34
 replace hs_40 := hs_40.mono hlev_34
 replace hs_41 := hs_41.mono hlev_34
 replace hs_42 := hs_42.mono hlev_34
 replace hs_43 := hs_43.mono hlev_34
 replace hs_44 := hs_44.mono hlev_34
 replace hs_45 := hs_45.mono hlev_34
 replace hs_46 := hs_46.mono hlev_34
 replace hs_47 := hs_47.mono hlev_34
 replace hs_48 := hs_48.mono hlev_34
 replace hs_49 := hs_49.mono hlev_34
 replace hs_50 := hs_50.mono hlev_34
 replace hs_51 := hs_51.mono hlev_34
 obtain ⟨Dv_35, hlev_35, hs_53, hS⟩ := hS.freezeC (C := C_BeatPair) (i := 27) (xs := (rv_8.Pairs.set (Int.toNat 2) (BeatPair.mk e_6.Hour e_6.One e_6.Other rv_11))) rfl hr_34
 replace hG := hG.mono hlev_35
 replace hs_27 := hs_27.mono hlev_35
 replace hs_28 := hs_28.mono hlev_35
 replace hs_29 := hs_29.mono hlev_35
 replace hs_30 := hs_30.mono hlev_35
 replace hs_31 := hs_31.mono hlev_35
 replace hs_32 := hs_32.mono hlev_35
 replace hs_33 := hs_33.mono hlev_35
 replace hs_34 := hs_34.mono hlev_35
 replace hs_35 := hs_35.mono hlev_35
 replace hs_36 := hs_36.mono hlev_35
 replace hs_37 := hs_37.mono hlev_35
 replace hs_38 := hs_38.mono hlev_35
 replace hs_39 := hs_39.mono hlev_35
 replace hs_40 := hs_40.mono hlev_35
 replace hs_41 := hs_41.mono hlev_35
 replace hs_42 := hs_42.mono hlev_35
 replace hs_43 := hs_43.mono hlev_35
 replace hs_44 := hs_44.mono hlev_35
 replace hs_45 := hs_45.mono hlev_35
 replace hs_46 := hs_46.mono hlev_35
 replace hs_47 := hs_47.mono hlev_35
 replace hs_48 := hs_48.mono hlev_35
 replace hs_49 := hs_49.mono hlev_35
 replace hs_50 := hs_50.mono hlev_35
 replace hs_51 := hs_51.mono hlev_35
 replace hs_52 := hs_52.mono hlev_35
 obtain ⟨Dv_36, hlev_36, hbv, hS⟩ := hS.freezeB (i := 28) rfl
 replace hG := hG.mono hlev_36
 replace hs_27 := hs_27.mono hlev_36
 replace hs_28 := hs_28.mono hlev_36
 replace hs_29 := hs_29.mono hlev_36
 replace hs_30 := hs_30.mono hlev_36
 replace hs_31 := hs_31.mono hlev_36
 replace hs_32 := hs_32.mono hlev_36
 replace hs_33 := hs_33.mono hlev_36
 replace hs_34 := hs_34.mono hlev_36
 replace hs_35 := hs_35.mono hlev_36
 replace hs_36 := hs_36.mono hlev_36
 replace hs_37 := hs_37.mono hlev_36
 replace hs_38 := hs_38.mono hlev_36
 replace hs_39 := hs_39.mono hlev_36
 replace hs_40 := hs_40.mono hlev_36
 replace hs_41 := hs_41.mono hlev_36
 replace hs_42 := hs_42.mono hlev_36
 replace hs_43 := hs_43.mono hlev_36
 replace hs_44 := hs_44.mono hlev_36
 replace hs_45 := hs_45.mono hlev_36
 replace hs_46 := hs_46.mono hlev_36
 replace hs_47 := hs_47.mono hlev_36
 replace hs_48 := hs_48.mono hlev_36
 replace hs_49 := hs_49.mono hlev_36
 replace hs_50 := hs_50.mono hlev_36
 replace hs_51 := hs_51.mono hlev_36
 replace hs_52 := hs_52.mono hlev_36
 replace hs_53 := hs_53.mono hlev_36
 have hr_35 : Reps C_BeatCellar Dv_36 ([(BeatCellar.mk 0 ([] : List Span) ([] : List BeatOpen) ([] : List BeatPair)), (BeatCellar.mk 13 rv.Rates rv.Opens rv.Pairs), (BeatCellar.mk rv_1.Hours (rv_1.Rates.set (Int.toNat 0) rv_9) rv_1.Opens rv_1.Pairs), (BeatCellar.mk rv_2.Hours rv_2.Rates (rv_2.Opens.set (Int.toNat 0) (BeatOpen.mk 3 e.Hour e.Step)) rv_2.Pairs), (BeatCellar.mk rv_3.Hours rv_3.Rates (rv_3.Opens.set (Int.toNat 0) (BeatOpen.mk e_1.Clock 3 e_1.Step)) rv_3.Pairs), (BeatCellar.mk rv_4.Hours rv_4.Rates (rv_4.Opens.set (Int.toNat 0) (BeatOpen.mk e_2.Clock e_2.Hour rv_10)) rv_4.Pairs), (BeatCellar.mk rv_5.Hours rv_5.Rates rv_5.Opens (rv_5.Pairs.set (Int.toNat 0) (BeatPair.mk 4 e_3.One e_3.Other e_3.Read))), (BeatCellar.mk rv_6.Hours rv_6.Rates rv_6.Opens (rv_6.Pairs.set (Int.toNat 1) (BeatPair.mk e_4.Hour e_4.One 0 e_4.Read))), (BeatCellar.mk rv_7.Hours rv_7.Rates rv_7.Opens (rv_7.Pairs.set (Int.toNat 1) (BeatPair.mk e_5.Hour (-1) e_5.Other e_5.Read))), (BeatCellar.mk rv_8.Hours rv_8.Rates rv_8.Opens (rv_8.Pairs.set (Int.toNat 2) (BeatPair.mk e_6.Hour e_6.One e_6.Other rv_11)))] : List BeatCellar) [iv 0, .slice none 0 0, .slice none 0 0, .slice none 0 0, iv 13, .slice p rv.Rates.length c, .slice p_1 rv.Opens.length c_1, .slice p_2 rv.Pairs.length c_2, iv rv_1.Hours, .slice p_3 (rv_1.Rates.set (Int.toNat 0) rv_9).length c_3, .slice p_4 rv_1.Opens.length c_4, .slice p_5 rv_1.Pairs.length c_5, iv rv_2.Hours, .slice p_6 rv_2.Rates.length c_6, .slice p_7 (rv_2.Opens.set (Int.toNat 0) (BeatOpen.mk 3 e.Hour e.Step)).length c_7, .slice p_8 rv_2.Pairs.length c_8, iv rv_3.Hours, .slice p_9 rv_3.Rates.length c_9, .slice p_10 (rv_3.Opens.set (Int.toNat 0) (BeatOpen.mk e_1.Clock 3 e_1.Step)).length c_10, .slice p_11 rv_3.Pairs.length c_11, iv rv_4.Hours, .slice p_12 rv_4.Rates.length c_12, .slice p_13 (rv_4.Opens.set (Int.toNat 0) (BeatOpen.mk e_2.Clock e_2.Hour rv_10)).length c_13, .slice p_14 rv_4.Pairs.length c_14, iv rv_5.Hours, .slice p_15 rv_5.Rates.length c_15, .slice p_16 rv_5.Opens.length c_16, .slice p_17 (rv_5.Pairs.set (Int.toNat 0) (BeatPair.mk 4 e_3.One e_3.Other e_3.Read)).length c_17, iv rv_6.Hours, .slice p_18 rv_6.Rates.length c_18, .slice p_19 rv_6.Opens.length c_19, .slice p_20 (rv_6.Pairs.set (Int.toNat 1) (BeatPair.mk e_4.Hour e_4.One 0 e_4.Read)).length c_20, iv rv_7.Hours, .slice p_21 rv_7.Rates.length c_21, .slice p_22 rv_7.Opens.length c_22, .slice p_23 (rv_7.Pairs.set (Int.toNat 1) (BeatPair.mk e_5.Hour (-1) e_5.Other e_5.Read)).length c_23, iv rv_8.Hours, .slice p_24 rv_8.Rates.length c_24, .slice p_25 rv_8.Opens.length c_25, .slice p_26 (rv_8.Pairs.set (Int.toNat 2) (BeatPair.mk e_6.Hour e_6.One e_6.Other rv_11)).length c_26] := Reps.cons (C := C_BeatCellar) (x := (BeatCellar.mk 0 ([] : List Span) ([] : List BeatOpen) ([] : List BeatPair))) (c := [iv 0, .slice none 0 0, .slice none 0 0, .slice none 0 0]) (⟨_, _, _, _, _, _, rfl, SRc.nil, SRc.nil, SRc.nil⟩) (Reps.cons (C := C_BeatCellar) (x := (BeatCellar.mk 13 rv.Rates rv.Opens rv.Pairs)) (c := [iv 13, .slice p rv.Rates.length c, .slice p_1 rv.Opens.length c_1, .slice p_2 rv.Pairs.length c_2]) (⟨_, _, _, _, _, _, rfl, hs_27, hs_28, hs_29⟩) (Reps.cons (C := C_BeatCellar) (x := (BeatCellar.mk rv_1.Hours (rv_1.Rates.set (Int.toNat 0) rv_9) rv_1.Opens rv_1.Pairs)) (c := [iv rv_1.Hours, .slice p_3 (rv_1.Rates.set (Int.toNat 0) rv_9).length c_3, .slice p_4 rv_1.Opens.length c_4, .slice p_5 rv_1.Pairs.length c_5]) (⟨_, _, _, _, _, _, rfl, hs_30, hs_31, hs_32⟩) (Reps.cons (C := C_BeatCellar) (x := (BeatCellar.mk rv_2.Hours rv_2.Rates (rv_2.Opens.set (Int.toNat 0) (BeatOpen.mk 3 e.Hour e.Step)) rv_2.Pairs)) (c := [iv rv_2.Hours, .slice p_6 rv_2.Rates.length c_6, .slice p_7 (rv_2.Opens.set (Int.toNat 0) (BeatOpen.mk 3 e.Hour e.Step)).length c_7, .slice p_8 rv_2.Pairs.length c_8]) (⟨_, _, _, _, _, _, rfl, hs_33, hs_34, hs_35⟩) (Reps.cons (C := C_BeatCellar) (x := (BeatCellar.mk rv_3.Hours rv_3.Rates (rv_3.Opens.set (Int.toNat 0) (BeatOpen.mk e_1.Clock 3 e_1.Step)) rv_3.Pairs)) (c := [iv rv_3.Hours, .slice p_9 rv_3.Rates.length c_9, .slice p_10 (rv_3.Opens.set (Int.toNat 0) (BeatOpen.mk e_1.Clock 3 e_1.Step)).length c_10, .slice p_11 rv_3.Pairs.length c_11]) (⟨_, _, _, _, _, _, rfl, hs_36, hs_37, hs_38⟩) (Reps.cons (C := C_BeatCellar) (x := (BeatCellar.mk rv_4.Hours rv_4.Rates (rv_4.Opens.set (Int.toNat 0) (BeatOpen.mk e_2.Clock e_2.Hour rv_10)) rv_4.Pairs)) (c := [iv rv_4.Hours, .slice p_12 rv_4.Rates.length c_12, .slice p_13 (rv_4.Opens.set (Int.toNat 0) (BeatOpen.mk e_2.Clock e_2.Hour rv_10)).length c_13, .slice p_14 rv_4.Pairs.length c_14]) (⟨_, _, _, _, _, _, rfl, hs_39, hs_40, hs_41⟩) (Reps.cons (C := C_BeatCellar) (x := (BeatCellar.mk rv_5.Hours rv_5.Rates rv_5.Opens (rv_5.Pairs.set (Int.toNat 0) (BeatPair.mk 4 e_3.One e_3.Other e_3.Read)))) (c := [iv rv_5.Hours, .slice p_15 rv_5.Rates.length c_15, .slice p_16 rv_5.Opens.length c_16, .slice p_17 (rv_5.Pairs.set (Int.toNat 0) (BeatPair.mk 4 e_3.One e_3.Other e_3.Read)).length c_17]) (⟨_, _, _, _, _, _, rfl, hs_42, hs_43, hs_44⟩) (Reps.cons (C := C_BeatCellar) (x := (BeatCellar.mk rv_6.Hours rv_6.Rates rv_6.Opens (rv_6.Pairs.set (Int.toNat 1) (BeatPair.mk e_4.Hour e_4.One 0 e_4.Read)))) (c := [iv rv_6.Hours, .slice p_18 rv_6.Rates.length c_18, .slice p_19 rv_6.Opens.length c_19, .slice p_20 (rv_6.Pairs.set (Int.toNat 1) (BeatPair.mk e_4.Hour e_4.One 0 e_4.Read)).length c_20]) (⟨_, _, _, _, _, _, rfl, hs_45, hs_46, hs_47⟩) (Reps.cons (C := C_BeatCellar) (x := (BeatCellar.mk rv_7.Hours rv_7.Rates rv_7.Opens (rv_7.Pairs.set (Int.toNat 1) (BeatPair.mk e_5.Hour (-1) e_5.Other e_5.Read)))) (c := [iv rv_7.Hours, .slice p_21 rv_7.Rates.length c_21, .slice p_22 rv_7.Opens.length c_22, .slice p_23 (rv_7.Pairs.set (Int.toNat 1) (BeatPair.mk e_5.Hour (-1) e_5.Other e_5.Read)).length c_23]) (⟨_, _, _, _, _, _, rfl, hs_48, hs_49, hs_50⟩) (Reps.cons (C := C_BeatCellar) (x := (BeatCellar.mk rv_8.Hours rv_8.Rates rv_8.Opens (rv_8.Pairs.set (Int.toNat 2) (BeatPair.mk e_6.Hour e_6.One e_6.Other rv_11)))) (c := [iv rv_8.Hours, .slice p_24 rv_8.Rates.length c_24, .slice p_25 rv_8.Opens.length c_25, .slice p_26 (rv_8.Pairs.set (Int.toNat 2) (BeatPair.mk e_6.Hour e_6.One e_6.Other rv_11)).length c_26]) (⟨_, _, _, _, _, _, rfl, hs_51, hs_52, hs_53⟩) (Reps.nil))))))))))
 have hs_54 : SRc C_BeatCellar Dv_36 ([(BeatCellar.mk 0 ([] : List Span) ([] : List BeatOpen) ([] : List BeatPair)), (BeatCellar.mk 13 rv.Rates rv.Opens rv.Pairs), (BeatCellar.mk rv_1.Hours (rv_1.Rates.set (Int.toNat 0) rv_9) rv_1.Opens rv_1.Pairs), (BeatCellar.mk rv_2.Hours rv_2.Rates (rv_2.Opens.set (Int.toNat 0) (BeatOpen.mk 3 e.Hour e.Step)) rv_2.Pairs), (BeatCellar.mk rv_3.Hours rv_3.Rates (rv_3.Opens.set (Int.toNat 0) (BeatOpen.mk e_1.Clock 3 e_1.Step)) rv_3.Pairs), (BeatCellar.mk rv_4.Hours rv_4.Rates (rv_4.Opens.set (Int.toNat 0) (BeatOpen.mk e_2.Clock e_2.Hour rv_10)) rv_4.Pairs), (BeatCellar.mk rv_5.Hours rv_5.Rates rv_5.Opens (rv_5.Pairs.set (Int.toNat 0) (BeatPair.mk 4 e_3.One e_3.Other e_3.Read))), (BeatCellar.mk rv_6.Hours rv_6.Rates rv_6.Opens (rv_6.Pairs.set (Int.toNat 1) (BeatPair.mk e_4.Hour e_4.One 0 e_4.Read))), (BeatCellar.mk rv_7.Hours rv_7.Rates rv_7.Opens (rv_7.Pairs.set (Int.toNat 1) (BeatPair.mk e_5.Hour (-1) e_5.Other e_5.Read))), (BeatCellar.mk rv_8.Hours rv_8.Rates rv_8.Opens (rv_8.Pairs.set (Int.toNat 2) (BeatPair.mk e_6.Hour e_6.One e_6.Other rv_11)))] : List BeatCellar) (some ⟨b, 0, none⟩) 10 := SRc.ofCells hbv hr_35 (Nat.le_refl 10)
 replace hF := hF.weak (us := [(0, .bool false), (1, .slice (some ⟨b, 0, none⟩) ([(BeatCellar.mk 0 ([] : List Span) ([] : List BeatOpen) ([] : List BeatPair)), (BeatCellar.mk 13 rv.Rates rv.Opens rv.Pairs), (BeatCellar.mk rv_1.Hours (rv_1.Rates.set (Int.toNat 0) rv_9) rv_1.Opens rv_1.Pairs), (BeatCellar.mk rv_2.Hours rv_2.Rates (rv_2.Opens.set (Int.toNat 0) (BeatOpen.mk 3 e.Hour e.Step)) rv_2.Pairs), (BeatCellar.mk rv_3.Hours rv_3.Rates (rv_3.Opens.set (Int.toNat 0) (BeatOpen.mk e_1.Clock 3 e_1.Step)) rv_3.Pairs), (BeatCellar.mk rv_4.Hours rv_4.Rates (rv_4.Opens.set (Int.toNat 0) (BeatOpen.mk e_2.Clock e_2.Hour rv_10)) rv_4.Pairs), (BeatCellar.mk rv_5.Hours rv_5.Rates rv_5.Opens (rv_5.Pairs.set (Int.toNat 0) (BeatPair.mk 4 e_3.One e_3.Other e_3.Read))), (BeatCellar.mk rv_6.Hours rv_6.Rates rv_6.Opens (rv_6.Pairs.set (Int.toNat 1) (BeatPair.mk e_4.Hour e_4.One 0 e_4.Read))), (BeatCellar.mk rv_7.Hours rv_7.Rates rv_7.Opens (rv_7.Pairs.set (Int.toNat 1) (BeatPair.mk e_5.Hour (-1) e_5.Other e_5.Read))), (BeatCellar.mk rv_8.Hours rv_8.Rates rv_8.Opens (rv_8.Pairs.set (Int.toNat 2) (BeatPair.mk e_6.Hour e_6.One e_6.Other rv_11)))] : List BeatCellar).length 10), (2, iv 0)]) (AF rfl)
 replace h := bind_some h
 obtain ⟨bad, hx_19, h⟩ := h
 rw [some_inj hx_19] at hs_54 hF
 refine loop_cut (body := remontoirlaw02_BeatKnown_b1 bad) (out := out) (fun s a w => ∃ (v0_0 : Bool) (i : Int), ∃ (Dv_37 : Stab), s = (v0_0, i) ∧ Dv_36.le Dv_37 ∧ Frm 455 [] [(0, .bool v0_0), (1, .slice (some ⟨b, 0, none⟩) bad.length 10), (2, iv i)] a ∧ St w0 D0 Dv_37 [] w) (false, 0) h ⟨false, 0, Dv_36, rfl, Stab.le.refl _, hF.weak (AF rfl), hS.weak trivial⟩ ?_
 rintro s a w xo ⟨v0_0, i, Dv_37, rfl, hlev_37, hF, hS⟩ h hxo
 unfold remontoirlaw02_BeatKnown_b1 at h
 dsimp only at h
 replace hG := hG.mono hlev_37
 replace hs_54 := hs_54.mono hlev_37
 refine seq (seq (region (step hF (Y.move hF rfl) rfl fun a hF => step hF (Y.move hF rfl) rfl fun a hF => step hF (Y.lenSl u_74 hF rfl) rfl fun a hF => step hF (Y.lss hF rfl rfl) rfl fun a hF => nT (cond_b hF rfl (fun hbv_1 => ?_) (fun hbv_1 => ?_)))))
 ·replace h := cond_t h hbv_1
  refine skip_ (then_n (seq (block (seq (region (step hF (Y.move hF rfl) rfl fun a hF => step hF (Y.move hF rfl) rfl fun a hF => ?_))))))
  replace h := bind_some h
  obtain ⟨e_7, hx_20, h⟩ := h
  obtain ⟨b_9, o, hE, hY⟩ := Y.indexS (P := Tryd.prog) (C := C_BeatCellar) (xs := bad) (T := 74) (x := (.tmp 114)) (y := (.tmp 115)) u_74 sz_26 hF rfl rfl (hs_54).1 hx_20
  obtain ⟨cc_7, hc_7, hcell⟩ := hE.open
  obtain ⟨p_27, c_27, p_28, c_28, p_29, c_29, rfl, hs_55, hs_56, hs_57⟩ := C_BeatCellar.open hc_7
  refine step hF (hY) rfl fun a hF => step hF (Y.loadNE (o := o) (k := 0) sz_26 hF rfl (hcell _ hS.stab) rfl rfl) rfl fun a hF => ?_
  replace h := bind_some h
  obtain ⟨rv_12, hx_21, h⟩ := h
  refine O.callP (us := [.agg #[iv e_7.Hours, .slice p_27 e_7.Rates.length c_27, .slice p_28 e_7.Opens.length c_28, .slice p_29 e_7.Pairs.length c_29], .slice none 0 0]) ca_15 hF hS (beat_IsTruth_ok hS.stab e_7 ([] : List (List Int)) hs_55 hs_56 hs_57 SRc.nil hG rv_12 hx_21) rfl rfl fun a w hF hS => step hF (Y.move hF rfl) rfl fun a hF => step hF (Y.extract hF rfl rfl) rfl fun a hF => step hF (Y.extract hF rfl rfl) rfl fun a hF => step hF (Y.assign hF rfl) rfl fun a hF => step hF (Y.assign hF rfl) rfl fun a hF => nT (seq (region (step hF (Y.move hF rfl) rfl fun a hF => step hF (Y.move hF rfl) rfl fun a hF => ?_)))
  obtain ⟨b_10, o_1, hE_1, hY_1⟩ := Y.indexS (P := Tryd.prog) (C := C_BeatCellar) (xs := bad) (T := 74) (x := (.tmp 122)) (y := (.tmp 123)) u_74 sz_26 hF rfl rfl (hs_54).1 hx_20
  obtain ⟨cc_8, hc_8, hcell_1⟩ := hE_1.open
  obtain ⟨p_30, c_30, p_31, c_31, p_32, c_32, rfl, hs_58, hs_59, hs_60⟩ := C_BeatCellar.open hc_8
  refine step hF (hY_1) rfl fun a hF => step hF (Y.loadNE (o := o_1) (k := 0) sz_26 hF rfl (hcell_1 _ hS.stab) rfl rfl) rfl fun a hF => ?_
  replace h := bind_some h
  obtain ⟨rv_13, hx_22, h⟩ := h
  refine O.callP (us := [.agg #[iv e_7.Hours, .slice p_30 e_7.Rates.length c_30, .slice p_31 e_7.Opens.length c_31, .slice p_32 e_7.Pairs.length c_32], iv (-1), iv 0]) ca_19 hF hS (beat_Offset_ok hS.stab e_7 (-1) 0 hs_58 hs_59 hs_60 hG rv_13 hx_22) rfl rfl fun a w hF hS => step hF (Y.move hF rfl) rfl fun a hF => step hF (Y.extract hF rfl rfl) rfl fun a hF => step hF (Y.extract hF rfl rfl) rfl fun a hF => O.alloc 29 zc_34 hF hS rfl fun b_11 a w hF hS => O.store (us := [iv rv_13.1.Low, iv rv_13.1.High]) 29 sz_34 hF rfl rfl rfl rfl hS rfl rfl fun a w hF hS => step hF (Y.assign hF rfl) rfl fun a hF => nT (seq (region (step hF (Y.move hF rfl) rfl fun a hF => step hF (Y.move hF rfl) rfl fun a hF => ?_)))
  obtain ⟨b_12, o_2, hE_2, hY_2⟩ := Y.indexS (P := Tryd.prog) (C := C_BeatCellar) (xs := bad) (T := 74) (x := (.tmp 130)) (y := (.tmp 131)) u_74 sz_26 hF rfl rfl (hs_54).1 hx_20
  obtain ⟨cc_9, hc_9, hcell_2⟩ := hE_2.open
  obtain ⟨p_33, c_33, p_34, c_34, p_35, c_35, rfl, hs_61, hs_62, hs_63⟩ := C_BeatCellar.open hc_9
  refine step hF (hY_2) rfl fun a hF => step hF (Y.loadNE (o := o_2) (k := 0) sz_26 hF rfl (hcell_2 _ hS.stab) rfl rfl) rfl fun a hF => ?_
  replace h := bind_some h
  obtain ⟨rv_14, hx_23, h⟩ := h
  refine O.callP (us := [.agg #[iv e_7.Hours, .slice p_33 e_7.Rates.length c_33, .slice p_34 e_7.Opens.length c_34, .slice p_35 e_7.Pairs.length c_35], iv (-1), iv 0, iv 0]) ca_22 hF hS (beat_Apart_ok hS.stab e_7 (-1) 0 0 hs_61 hs_62 hs_63 hG rv_14 hx_23) rfl rfl fun a w hF hS => step hF (Y.move hF rfl) rfl fun a hF => step hF (Y.extract hF rfl rfl) rfl fun a hF => step hF (Y.extract hF rfl rfl) rfl fun a hF => O.alloc 30 zc_34 hF hS rfl fun b_13 a w hF hS => O.store (us := [iv rv_14.1.Low, iv rv_14.1.High]) 30 sz_34 hF rfl rfl rfl rfl hS rfl rfl fun a w hF hS => step hF (Y.assign hF rfl) rfl fun a hF => nT (seq (region (step hF (Y.move hF rfl) rfl fun a hF => step hF (Y.move hF rfl) rfl fun a hF => ?_)))
  obtain ⟨b_14, o_3, hE_3, hY_3⟩ := Y.indexS (P := Tryd.prog) (C := C_BeatCellar) (xs := bad) (T := 74) (x := (.tmp 138)) (y := (.tmp 139)) u_74 sz_26 hF rfl rfl (hs_54).1 hx_20
  obtain ⟨cc_10, hc_10, hcell_3⟩ := hE_3.open
  obtain ⟨p_36, c_36, p_37, c_37, p_38, c_38, rfl, hs_64, hs_65, hs_66⟩ := C_BeatCellar.open hc_10
  refine step hF (hY_3) rfl fun a hF => step hF (Y.loadNE (o := o_3) (k := 0) sz_26 hF rfl (hcell_3 _ hS.stab) rfl rfl) rfl fun a hF => ?_
  replace h := bind_some h
  obtain ⟨rv_15, hx_24, h⟩ := h
  refine O.callP (us := [.agg #[iv e_7.Hours, .slice p_36 e_7.Rates.length c_36, .slice p_37 e_7.Opens.length c_37, .slice p_38 e_7.Pairs.length c_38], iv (-1), iv 0, iv 0]) ca_24 hF hS (beat_Drift_ok hS.stab e_7 (-1) 0 0 hs_64 hs_65 hs_66 hG rv_15 hx_24) rfl rfl fun a w hF hS => step hF (Y.move hF rfl) rfl fun a hF => step hF (Y.extract hF rfl rfl) rfl fun a hF => step hF (Y.extract hF rfl rfl) rfl fun a hF => O.alloc 31 zc_34 hF hS rfl fun b_15 a w hF hS => O.store (us := [iv rv_15.1.Low, iv rv_15.1.High]) 31 sz_34 hF rfl rfl rfl rfl hS rfl rfl fun a w hF hS => step hF (Y.assign hF rfl) rfl fun a hF => nT (seq (region (step hF (Y.move hF rfl) rfl fun a hF => step hF (Y.move hF rfl) rfl fun a hF => ?_)))
  obtain ⟨b_16, o_4, hE_4, hY_4⟩ := Y.indexS (P := Tryd.prog) (C := C_BeatCellar) (xs := bad) (T := 74) (x := (.tmp 146)) (y := (.tmp 147)) u_74 sz_26 hF rfl rfl (hs_54).1 hx_20
  obtain ⟨cc_11, hc_11, hcell_4⟩ := hE_4.open
  obtain ⟨p_39, c_39, p_40, c_40, p_41, c_41, rfl, hs_67, hs_68, hs_69⟩ := C_BeatCellar.open hc_11
  refine step hF (hY_4) rfl fun a hF => step hF (Y.loadNE (o := o_4) (k := 0) sz_26 hF rfl (hcell_4 _ hS.stab) rfl rfl) rfl fun a hF => ?_
  replace h := bind_some h
  obtain ⟨rv_16, hx_25, h⟩ := h
  refine O.callS (us := [.agg #[iv e_7.Hours, .slice p_39 e_7.Rates.length c_39, .slice p_40 e_7.Opens.length c_40, .slice p_41 e_7.Pairs.length c_41], iv (-1), iv 0, .bool true]) ca_26 hF hS (beat_Case_ok hS.stab e_7 (-1) 0 true hs_67 hs_68 hs_69 hG rv_16 hx_25) rfl rfl fun v_9 Dv_38 a w hR hlev_38 hF hS => ?_
  replace hG := hG.mono hlev_38
  replace hs_54 := hs_54.mono hlev_38
  obtain ⟨p_42, c_42, rfl, hs_70⟩ := hR
  refine step hF (Y.move hF rfl) rfl fun a hF => step hF (Y.extract hF rfl rfl) rfl fun a hF => step hF (Y.extract hF rfl rfl) rfl fun a hF => step hF (Y.assign hF rfl) rfl fun a hF => step hF (Y.assign hF rfl) rfl fun a hF => nT (seq (region (step hF (Y.move hF rfl) rfl fun a hF => step hF (Y.move hF rfl) rfl fun a hF => ?_)))
  obtain ⟨b_17, o_5, hE_5, hY_5⟩ := Y.indexS (P := Tryd.prog) (C := C_BeatCellar) (xs := bad) (T := 74) (x := (.tmp 154)) (y := (.tmp 155)) u_74 sz_26 hF rfl rfl (hs_54).1 hx_20
  obtain ⟨cc_12, hc_12, hcell_5⟩ := hE_5.open
  obtain ⟨p_43, c_43, p_44, c_44, p_45, c_45, rfl, hs_71, hs_72, hs_73⟩ := C_BeatCellar.open hc_12
  refine step hF (hY_5) rfl fun a hF => step hF (Y.loadNE (o := o_5) (k := 0) sz_26 hF rfl (hcell_5 _ hS.stab) rfl rfl) rfl fun a hF => ?_
  replace h := bind_some h
  obtain ⟨rv_17, hx_26, h⟩ := h
  refine O.callS (us := [.agg #[iv e_7.Hours, .slice p_43 e_7.Rates.length c_43, .slice p_44 e_7.Opens.length c_44, .slice p_45 e_7.Pairs.length c_45]]) ca_27 hF hS (beat_Wrong_ok hS.stab e_7 hs_71 hs_72 hs_73 hG rv_17 hx_26) rfl rfl fun v_10 Dv_39 a w hR_1 hlev_39 hF hS => ?_
  replace hG := hG.mono hlev_39
  replace hs_54 := hs_54.mono hlev_39
  obtain ⟨p_46, c_46, rfl, hs_74⟩ := hR_1
  refine step hF (Y.move hF rfl) rfl fun a hF => step hF (Y.extract hF rfl rfl) rfl fun a hF => step hF (Y.extract hF rfl rfl) rfl fun a hF => step hF (Y.assign hF rfl) rfl fun a hF => step hF (Y.assign hF rfl) rfl fun a hF => nT (seq (region (step hF (Y.move hF rfl) rfl fun a hF => step hF (Y.move hF rfl) rfl fun a hF => ?_)))
  obtain ⟨b_18, o_6, hE_6, hY_6⟩ := Y.indexS (P := Tryd.prog) (C := C_BeatCellar) (xs := bad) (T := 74) (x := (.tmp 162)) (y := (.tmp 163)) u_74 sz_26 hF rfl rfl (hs_54).1 hx_20
  obtain ⟨cc_13, hc_13, hcell_6⟩ := hE_6.open
  obtain ⟨p_47, c_47, p_48, c_48, p_49, c_49, rfl, hs_75, hs_76, hs_77⟩ := C_BeatCellar.open hc_13
  refine step hF (hY_6) rfl fun a hF => step hF (Y.loadNE (o := o_6) (k := 0) sz_26 hF rfl (hcell_6 _ hS.stab) rfl rfl) rfl fun a hF => ?_
  replace h := bind_some h
  obtain ⟨rv_18, hx_27, h⟩ := h
  refine O.callP (us := [.agg #[iv e_7.Hours, .slice p_47 e_7.Rates.length c_47, .slice p_48 e_7.Opens.length c_48, .slice p_49 e_7.Pairs.length c_49], iv (-1)]) ca_30 hF hS (beat_Best_ok hS.stab e_7 (-1) hs_75 hs_76 hs_77 hG rv_18 hx_27) rfl rfl fun a w hF hS => step hF (Y.move hF rfl) rfl fun a hF => step hF (Y.extract hF rfl rfl) rfl fun a hF => step hF (Y.extract hF rfl rfl) rfl fun a hF => step hF (Y.extract hF rfl rfl) rfl fun a hF => step hF (Y.assign hF rfl) rfl fun a hF => step hF (Y.assign hF rfl) rfl fun a hF => step hF (Y.assign hF rfl) rfl fun a hF => nT (seq (region (step hF (Y.move hF rfl) rfl fun a hF => step hF (Y.move hF rfl) rfl fun a hF => ?_)))
  obtain ⟨b_19, o_7, hE_7, hY_7⟩ := Y.indexS (P := Tryd.prog) (C := C_BeatCellar) (xs := bad) (T := 74) (x := (.tmp 170)) (y := (.tmp 171)) u_74 sz_26 hF rfl rfl (hs_54).1 hx_20
  obtain ⟨cc_14, hc_14, hcell_7⟩ := hE_7.open
  obtain ⟨p_50, c_50, p_51, c_51, p_52, c_52, rfl, hs_78, hs_79, hs_80⟩ := C_BeatCellar.open hc_14
  refine step hF (hY_7) rfl fun a hF => step hF (Y.loadNE (o := o_7) (k := 0) sz_26 hF rfl (hcell_7 _ hS.stab) rfl rfl) rfl fun a hF => ?_
  replace h := bind_some h
  obtain ⟨rv_19, hx_28, h⟩ := h
  refine O.callP (us := [.agg #[iv e_7.Hours, .slice p_50 e_7.Rates.length c_50, .slice p_51 e_7.Opens.length c_51, .slice p_52 e_7.Pairs.length c_52]]) ca_17 hF hS (beat_Check_ok hS.stab e_7 hs_78 hs_79 hs_80 rv_19 hx_28) rfl rfl fun a w hF hS => step hF (Y.neq hF rfl rfl) rfl fun a hF => step hF (Y.move hF rfl) rfl fun a hF => join (N := 455) (rs := []) (w0 := w0) (D0 := D0) 3 (us := [(0, .bool v0_0), (1, .slice (some ⟨b, 0, none⟩) bad.length 10), (2, iv i), (6, iv rv_13.2), (8, iv rv_14.2), (10, iv rv_15.2), (12, iv rv_16.2), (14, iv rv_17.2), (17, iv rv_18.2.2), (179, .bool ((rv_19 != 20) || (rv_12.2 != 20)))]) (ms := [(29, .cells b_11 [iv rv_13.1.Low, iv rv_13.1.High] 34), (30, .cells b_13 [iv rv_14.1.Low, iv rv_14.1.High] 34), (31, .cells b_15 [iv rv_15.1.Low, iv rv_15.1.High] 34)]) (D' := Dv_39) ?_ ?_
  ·rcases bcases (rv_19 != 20) with hbv_2 | hbv_2
   ·skip
    refine guard_off hF rfl rfl hbv_2 rfl fun a hF => guard_off hF rfl rfl hbv_2 rfl fun a hF => step hF (Y.pick_t hF rfl hbv_2 rfl) rfl fun a hF => nT ⟨hF.weak ⟨rfl, rfl, rfl, rfl, rfl, rfl, rfl, rfl, rfl, (by rw [hbv_2]; rfl), trivial⟩, hS.weak (AL rfl)⟩
   refine guard_on hF rfl rfl hbv_2 (step hF (Y.move hF rfl) rfl fun a hF => guard_on hF rfl rfl hbv_2 (step hF (Y.neq hF rfl rfl) rfl fun a hF => step hF (Y.pick_f hF rfl hbv_2 rfl) rfl fun a hF => nT ⟨hF.weak ⟨rfl, rfl, rfl, rfl, rfl, rfl, rfl, rfl, rfl, (by rw [hbv_2]; rfl), trivial⟩, hS.weak (AL rfl)⟩))
  intro a w hF hS
  refine step hF (Y.move hF rfl) rfl fun a hF => join (N := 455) (rs := []) (w0 := w0) (D0 := D0) 3 (us := [(0, .bool v0_0), (1, .slice (some ⟨b, 0, none⟩) bad.length 10), (2, iv i), (8, iv rv_14.2), (10, iv rv_15.2), (12, iv rv_16.2), (14, iv rv_17.2), (17, iv rv_18.2.2), (183, .bool (((rv_19 != 20) || (rv_12.2 != 20)) || (rv_13.2 != 20)))]) (ms := [(29, .cells b_11 [iv rv_13.1.Low, iv rv_13.1.High] 34), (30, .cells b_13 [iv rv_14.1.Low, iv rv_14.1.High] 34), (31, .cells b_15 [iv rv_15.1.Low, iv rv_15.1.High] 34)]) (D' := Dv_39) ?_ ?_
  ·rcases bcases ((rv_19 != 20) || (rv_12.2 != 20)) with hbv_3 | hbv_3
   ·skip
    refine guard_off hF rfl rfl hbv_3 rfl fun a hF => guard_off hF rfl rfl hbv_3 rfl fun a hF => step hF (Y.pick_t hF rfl hbv_3 rfl) rfl fun a hF => nT ⟨hF.weak ⟨rfl, rfl, rfl, rfl, rfl, rfl, rfl, rfl, (by rw [hbv_3]; rfl), trivial⟩, hS.weak (AL rfl)⟩
   refine guard_on hF rfl rfl hbv_3 (step hF (Y.move hF rfl) rfl fun a hF => guard_on hF rfl rfl hbv_3 (step hF (Y.neq hF rfl rfl) rfl fun a hF => step hF (Y.pick_f hF rfl hbv_3 rfl) rfl fun a hF => nT ⟨hF.weak ⟨rfl, rfl, rfl, rfl, rfl, rfl, rfl, rfl, (by rw [hbv_3]; rfl), trivial⟩, hS.weak (AL rfl)⟩))
  intro a w hF hS
  refine step hF (Y.move hF rfl) rfl fun a hF => join (N := 455) (rs := []) (w0 := w0) (D0 := D0) 3 (us := [(0, .bool v0_0), (1, .slice (some ⟨b, 0, none⟩) bad.length 10), (2, iv i), (10, iv rv_15.2), (12, iv rv_16.2), (14, iv rv_17.2), (17, iv rv_18.2.2), (187, .bool ((((rv_19 != 20) || (rv_12.2 != 20)) || (rv_13.2 != 20)) || (rv_14.2 != 20)))]) (ms := [(29, .cells b_11 [iv rv_13.1.Low, iv rv_13.1.High] 34), (30, .cells b_13 [iv rv_14.1.Low, iv rv_14.1.High] 34), (31, .cells b_15 [iv rv_15.1.Low, iv rv_15.1.High] 34)]) (D' := Dv_39) ?_ ?_
  ·rcases bcases (((rv_19 != 20) || (rv_12.2 != 20)) || (rv_13.2 != 20)) with hbv_4 | hbv_4
   ·skip
    refine guard_off hF rfl rfl hbv_4 rfl fun a hF => guard_off hF rfl rfl hbv_4 rfl fun a hF => step hF (Y.pick_t hF rfl hbv_4 rfl) rfl fun a hF => nT ⟨hF.weak ⟨rfl, rfl, rfl, rfl, rfl, rfl, rfl, (by rw [hbv_4]; rfl), trivial⟩, hS.weak (AL rfl)⟩
   refine guard_on hF rfl rfl hbv_4 (step hF (Y.move hF rfl) rfl fun a hF => guard_on hF rfl rfl hbv_4 (step hF (Y.neq hF rfl rfl) rfl fun a hF => step hF (Y.pick_f hF rfl hbv_4 rfl) rfl fun a hF => nT ⟨hF.weak ⟨rfl, rfl, rfl, rfl, rfl, rfl, rfl, (by rw [hbv_4]; rfl), trivial⟩, hS.weak (AL rfl)⟩))
  intro a w hF hS
  refine step hF (Y.move hF rfl) rfl fun a hF => join (N := 455) (rs := []) (w0 := w0) (D0 := D0) 3 (us := [(0, .bool v0_0), (1, .slice (some ⟨b, 0, none⟩) bad.length 10), (2, iv i), (12, iv rv_16.2), (14, iv rv_17.2), (17, iv rv_18.2.2), (191, .bool (((((rv_19 != 20) || (rv_12.2 != 20)) || (rv_13.2 != 20)) || (rv_14.2 != 20)) || (rv_15.2 != 20)))]) (ms := [(29, .cells b_11 [iv rv_13.1.Low, iv rv_13.1.High] 34), (30, .cells b_13 [iv rv_14.1.Low, iv rv_14.1.High] 34), (31, .cells b_15 [iv rv_15.1.Low, iv rv_15.1.High] 34)]) (D' := Dv_39) ?_ ?_
  ·rcases bcases ((((rv_19 != 20) || (rv_12.2 != 20)) || (rv_13.2 != 20)) || (rv_14.2 != 20)) with hbv_5 | hbv_5
   ·skip
    refine guard_off hF rfl rfl hbv_5 rfl fun a hF => guard_off hF rfl rfl hbv_5 rfl fun a hF => step hF (Y.pick_t hF rfl hbv_5 rfl) rfl fun a hF => nT ⟨hF.weak ⟨rfl, rfl, rfl, rfl, rfl, rfl, (by rw [hbv_5]; rfl), trivial⟩, hS.weak (AL rfl)⟩
   refine guard_on hF rfl rfl hbv_5 (step hF (Y.move hF rfl) rfl fun a hF => guard_on hF rfl rfl hbv_5 (step hF (Y.neq hF rfl rfl) rfl fun a hF => step hF (Y.pick_f hF rfl hbv_5 rfl) rfl fun a hF => nT ⟨hF.weak ⟨rfl, rfl, rfl, rfl, rfl, rfl, (by rw [hbv_5]; rfl), trivial⟩, hS.weak (AL rfl)⟩))
  intro a w hF hS
  refine step hF (Y.move hF rfl) rfl fun a hF => join (N := 455) (rs := []) (w0 := w0) (D0 := D0) 3 (us := [(0, .bool v0_0), (1, .slice (some ⟨b, 0, none⟩) bad.length 10), (2, iv i), (14, iv rv_17.2), (17, iv rv_18.2.2), (195, .bool ((((((rv_19 != 20) || (rv_12.2 != 20)) || (rv_13.2 != 20)) || (rv_14.2 != 20)) || (rv_15.2 != 20)) || (rv_16.2 != 20)))]) (ms := [(29, .cells b_11 [iv rv_13.1.Low, iv rv_13.1.High] 34), (30, .cells b_13 [iv rv_14.1.Low, iv rv_14.1.High] 34), (31, .cells b_15 [iv rv_15.1.Low, iv rv_15.1.High] 34)]) (D' := Dv_39) ?_ ?_
  ·rcases bcases (((((rv_19 != 20) || (rv_12.2 != 20)) || (rv_13.2 != 20)) || (rv_14.2 != 20)) || (rv_15.2 != 20)) with hbv_6 | hbv_6
   ·skip
    refine guard_off hF rfl rfl hbv_6 rfl fun a hF => guard_off hF rfl rfl hbv_6 rfl fun a hF => step hF (Y.pick_t hF rfl hbv_6 rfl) rfl fun a hF => nT ⟨hF.weak ⟨rfl, rfl, rfl, rfl, rfl, (by rw [hbv_6]; rfl), trivial⟩, hS.weak (AL rfl)⟩
   refine guard_on hF rfl rfl hbv_6 (step hF (Y.move hF rfl) rfl fun a hF => guard_on hF rfl rfl hbv_6 (step hF (Y.neq hF rfl rfl) rfl fun a hF => step hF (Y.pick_f hF rfl hbv_6 rfl) rfl fun a hF => nT ⟨hF.weak ⟨rfl, rfl, rfl, rfl, rfl, (by rw [hbv_6]; rfl), trivial⟩, hS.weak (AL rfl)⟩))
  intro a w hF hS
  refine step hF (Y.move hF rfl) rfl fun a hF => join (N := 455) (rs := []) (w0 := w0) (D0 := D0) 3 (us := [(0, .bool v0_0), (1, .slice (some ⟨b, 0, none⟩) bad.length 10), (2, iv i), (17, iv rv_18.2.2), (199, .bool (((((((rv_19 != 20) || (rv_12.2 != 20)) || (rv_13.2 != 20)) || (rv_14.2 != 20)) || (rv_15.2 != 20)) || (rv_16.2 != 20)) || (rv_17.2 != 20)))]) (ms := [(29, .cells b_11 [iv rv_13.1.Low, iv rv_13.1.High] 34), (30, .cells b_13 [iv rv_14.1.Low, iv rv_14.1.High] 34), (31, .cells b_15 [iv rv_15.1.Low, iv rv_15.1.High] 34)]) (D' := Dv_39) ?_ ?_
  ·rcases bcases ((((((rv_19 != 20) || (rv_12.2 != 20)) || (rv_13.2 != 20)) || (rv_14.2 != 20)) || (rv_15.2 != 20)) || (rv_16.2 != 20)) with hbv_7 | hbv_7
   ·skip
    refine guard_off hF rfl rfl hbv_7 rfl fun a hF => guard_off hF rfl rfl hbv_7 rfl fun a hF => step hF (Y.pick_t hF rfl hbv_7 rfl) rfl fun a hF => nT ⟨hF.weak ⟨rfl, rfl, rfl, rfl, (by rw [hbv_7]; rfl), trivial⟩, hS.weak (AL rfl)⟩
   refine guard_on hF rfl rfl hbv_7 (step hF (Y.move hF rfl) rfl fun a hF => guard_on hF rfl rfl hbv_7 (step hF (Y.neq hF rfl rfl) rfl fun a hF => step hF (Y.pick_f hF rfl hbv_7 rfl) rfl fun a hF => nT ⟨hF.weak ⟨rfl, rfl, rfl, rfl, (by rw [hbv_7]; rfl), trivial⟩, hS.weak (AL rfl)⟩))
  intro a w hF hS
  refine step hF (Y.move hF rfl) rfl fun a hF => join (N := 455) (rs := []) (w0 := w0) (D0 := D0) 3 (us := [(0, .bool v0_0), (1, .slice (some ⟨b, 0, none⟩) bad.length 10), (2, iv i), (203, .bool ((((((((rv_19 != 20) || (rv_12.2 != 20)) || (rv_13.2 != 20)) || (rv_14.2 != 20)) || (rv_15.2 != 20)) || (rv_16.2 != 20)) || (rv_17.2 != 20)) || (rv_18.2.2 != 20)))]) (ms := [(29, .cells b_11 [iv rv_13.1.Low, iv rv_13.1.High] 34), (30, .cells b_13 [iv rv_14.1.Low, iv rv_14.1.High] 34), (31, .cells b_15 [iv rv_15.1.Low, iv rv_15.1.High] 34)]) (D' := Dv_39) ?_ ?_
  ·rcases bcases (((((((rv_19 != 20) || (rv_12.2 != 20)) || (rv_13.2 != 20)) || (rv_14.2 != 20)) || (rv_15.2 != 20)) || (rv_16.2 != 20)) || (rv_17.2 != 20)) with hbv_8 | hbv_8
   ·skip
    refine guard_off hF rfl rfl hbv_8 rfl fun a hF => guard_off hF rfl rfl hbv_8 rfl fun a hF => step hF (Y.pick_t hF rfl hbv_8 rfl) rfl fun a hF => nT ⟨hF.weak ⟨rfl, rfl, rfl, (by rw [hbv_8]; rfl), trivial⟩, hS.weak (AL rfl)⟩
   refine guard_on hF rfl rfl hbv_8 (step hF (Y.move hF rfl) rfl fun a hF => guard_on hF rfl rfl hbv_8 (step hF (Y.neq hF rfl rfl) rfl fun a hF => step hF (Y.pick_f hF rfl hbv_8 rfl) rfl fun a hF => nT ⟨hF.weak ⟨rfl, rfl, rfl, (by rw [hbv_8]; rfl), trivial⟩, hS.weak (AL rfl)⟩))
  intro a w hF hS
  refine nT (cond_b hF rfl (fun hbv_9 => ?_) (fun hbv_9 => ?_))
  ·replace h := cond_t h hbv_9
   refine seq (region (step hF (Y.assign hF rfl) rfl fun a hF => nT (ret_ (blk_r (then_r (then_r (blk_r (then_r ?_))))))))
   replace h := ext_some h hxo
   obtain rfl := some_inj h
   exact leaveP Tryd.results14 hF hS (.cons (.tmp rfl) .nil) .nil rfl
  replace h := cond_f h hbv_9
  refine skip_ (blk_n (then_n (region (step hF (Y.move hF rfl) rfl fun a hF => step hF (Y.add hF rfl rfl) rfl fun a hF => step hF (Y.assign hF rfl) rfl fun a hF => nT (⟨_, nxt_some h, v0_0, (wr (i + 1)), Dv_39, rfl, hlev_37.trans (hlev_38.trans hlev_39), hF.weak (AF rfl), hS.weak trivial⟩)))))
 replace h := cond_f h hbv_1
 refine exit_ (then_x (then_x (blk_hit (then_n ?_))))
 replace h := ext_some h hxo
 exact remontoirlaw02_BeatKnown_s1_ok v0_0 (hlev.trans (hlev_1.trans (hlev_2.trans (hlev_3.trans (hlev_4.trans (hlev_5.trans (hlev_6.trans (hlev_7.trans (hlev_8.trans (hlev_9.trans (hlev_10.trans (hlev_11.trans (hlev_12.trans (hlev_13.trans (hlev_14.trans (hlev_15.trans (hlev_16.trans (hlev_17.trans (hlev_18.trans (hlev_19.trans (hlev_20.trans (hlev_21.trans (hlev_22.trans (hlev_23.trans (hlev_24.trans (hlev_25.trans (hlev_26.trans (hlev_27.trans (hlev_28.trans (hlev_29.trans (hlev_30.trans (hlev_31.trans (hlev_32.trans (hlev_33.trans (hlev_34.trans (hlev_35.trans (hlev_36.trans hlev_37))))))))))))))))))))))))))))))))))))) hG out h (hF.weak (us := [(0, .bool v0_0)]) ⟨rfl, trivial⟩) (hS.weak (ms := []) trivial)
end Go.Proofs.YtpniidbbbhbglaaDoor.Rt
