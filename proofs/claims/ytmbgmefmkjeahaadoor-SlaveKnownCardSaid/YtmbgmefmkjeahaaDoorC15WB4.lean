/- Walks of the functions of this seat: what each Go function comes to, as a Lean function, and the proof. Part WB4. Under no conditions. -/
import Derived.Test.YtmbgmefmkjeahaaDoorC15WB3
set_option linter.unusedVariables false
set_option linter.unusedSimpArgs false
set_option maxRecDepth 100000
set_option maxHeartbeats 4000000
namespace Go.Proofs.YtmbgmefmkjeahaaDoor.Rt
open Go Go.RowKit
noncomputable def w7works : ND Bool :=
  (ND.det (w7line ([] : List Int)) fun rv =>
  (ND.bnd (slave_Can rv 0) fun rv_1 =>
  (ND.det (w7line ([0])) fun rv_2 =>
  (ND.bnd (slave_Lost rv_2 0) fun rv_3 =>
  (ND.det (w7line ([] : List Int)) fun rv_4 =>
  (ND.det (slave_IsStory rv_4 0 ([[1]])) fun rv_5 =>
  (ND.det (w7line ([1])) fun rv_6 =>
  (ND.bnd (slave_Story rv_6 0) fun rv_7 =>
  (ND.det (cond (rv_1.2 != 0) (some true) (some (rv_3.2 != 0))) fun t =>
  (ND.det (cond t (some true) (some (rv_5.2 != 0))) fun t_1 =>
  (ND.det (cond t_1 (some true) (some (rv_7.2 != 0))) fun t_2 =>
  (ND.det (cond t_2 (some true) ((r0Alike rv_1.1 ([0, 1, 2])).bind fun rv_8 =>
  some (!rv_8))) fun t_3 =>
  (ND.det (cond t_3 (some true) ((r0To 1 1).bind fun rv_9 =>
  some (!([rv_3.1.Low, rv_3.1.High] == [rv_9.Low, rv_9.High])))) fun t_4 =>
  (ND.det (cond t_4 (some true) (some (!rv_5.1))) fun t_5 =>
  (ND.det (cond t_5 (some true) ((r0AlikeRows rv_7.1 ([[3], ([] : List Int)])).bind fun rv_10 =>
  some (!rv_10))) fun t_6 =>
  cond t_6
  (ND.ret false)
  ((ND.det (w7line ([0, 1, 0])) fun rv_11 =>
  (ND.bnd (slave_Wrong rv_11) fun rv_12 =>
  (ND.det (w7line ([] : List Int)) fun rv_13 =>
  (ND.bnd (slave_Set rv_13 5) fun rv_14 =>
  (ND.det (w7line ([] : List Int)) fun rv_15 =>
  (ND.bnd (slave_Sets rv_15 5 (SlavePlan.mk 1 10 0 5)) fun rv_16 =>
  (ND.det (w7line ([] : List Int)) fun rv_17 =>
  (ND.bnd (slave_Homes rv_17 2) fun rv_18 =>
  (ND.det (cond ((((rv_12.2 == 0) && (rv_14.2 == 0)) && (rv_16.2 == 0)) && (rv_18.2 == 0)) ((r0Alike rv_12.1 ([2])).bind fun rv_19 =>
  some rv_19) (some false)) fun t_7 =>
  ND.ret (((t_7 && ([rv_14.1.Pre, rv_14.1.Home, rv_14.1.First, rv_14.1.Send] == [(-1), 10, 1, 6])) && rv_16.1) && (rv_18.1 == 13)))))))))))))))))))))))))))
theorem w7works_ok {w0 : World} {D0 : Stab} (hD : D0.on w0) (hG : Glob D0) (out : Bool → Prop) (h : w7works out) : Calls Tryd.prog 23 [].toArray w0 (RetPN D0 w0 out fun (out : Bool) => .bool out) := by
 refine enter _ 127 Tryd.func23 rfl Tryd.ntmps23 rfl fun a hF => ?_
 replace hF : Frm 127 [] [] a := hF
 have hS := St.start hD
 unfold w7works at h
 refine seq (region (step hF (Y.assign hF rfl) rfl fun a hF => nT (seq (region ?_))))
 obtain ⟨rv, hx, h⟩ := ndet h
 refine O.callS (us := [.slice none 0 0]) ca_55 hF hS (w7line_ok hS.stab ([] : List Int) SRc.nil rv hx) rfl rfl fun v Dv a w hR hlev hF hS => ?_
 replace hG := hG.mono hlev
 obtain ⟨p, c, p_1, c_1, rfl, hs, hs_1⟩ := hR
 obtain ⟨KQ, hx_1, hk⟩ := nbnd_ex h
 refine O.callSN (us := [.agg #[iv rv.Ring, .slice p rv.Starts.length c, .slice p_1 rv.Events.length c_1], iv 0]) ca_16 hF hS (slave_Can_ok hS.stab rv 0 hs hs_1 hG KQ hx_1) rfl rfl fun rv_1 h v_1 Dv_1 a w hR_1 hlev_1 hF hS => ?_
 replace h := hk _ h
 replace hG := hG.mono hlev_1
 obtain ⟨p_2, c_2, rfl, hs_2⟩ := hR_1
 refine step hF (Y.move hF rfl) rfl fun a hF => step hF (Y.extract hF rfl rfl) rfl fun a hF => step hF (Y.extract hF rfl rfl) rfl fun a hF => step hF (Y.assign hF rfl) rfl fun a hF => step hF (Y.assign hF rfl) rfl fun a hF => nT (seq (region ?_))
 have hr : Reps C_int Dv_1 [0] [iv 0] := Reps.cons (C := C_int) (x := 0) (c := [iv 0]) (r := []) rfl (Reps.nil)
 refine O.buildSlice (E := 3) (C := C_int) (xs := [0]) (cs := [iv 0]) (us := [iv 0]) (parts := [(0, (.const (iv 0)))]) 1 hF hS rfl (by kernel_rfl) hr rfl rfl rfl fun p_3 c_3 a w hF hS => ?_
 obtain ⟨Dv_2, hlev_2, hs_3, hS⟩ := hS.freezeC (C := C_int) (i := 1) (xs := [0]) rfl hr
 replace hG := hG.mono hlev_2
 replace hs_2 := hs_2.mono hlev_2
 obtain ⟨rv_2, hx_2, h⟩ := ndet h
 refine O.callS (us := [.slice p_3 ([0]).length c_3]) ca_55 hF hS (w7line_ok hS.stab ([0]) hs_3 rv_2 hx_2) rfl rfl fun v_2 Dv_3 a w hR_2 hlev_3 hF hS => ?_
 replace hG := hG.mono hlev_3
 replace hs_2 := hs_2.mono hlev_3
 obtain ⟨p_4, c_4, p_5, c_5, rfl, hs_4, hs_5⟩ := hR_2
 obtain ⟨KQ_1, hx_3, hk_1⟩ := nbnd_ex h
 refine O.callPN (us := [.agg #[iv rv_2.Ring, .slice p_4 rv_2.Starts.length c_4, .slice p_5 rv_2.Events.length c_5], iv 0]) ca_21 hF hS (slave_Lost_ok hS.stab rv_2 0 hs_4 hs_5 hG KQ_1 hx_3) rfl rfl fun rv_3 h a w hF hS => ?_
 replace h := hk_1 _ h
 refine step hF (Y.move hF rfl) rfl fun a hF => step hF (Y.extract hF rfl rfl) rfl fun a hF => step hF (Y.extract hF rfl rfl) rfl fun a hF => O.alloc 2 zc_33 hF hS rfl fun b a w hF hS => O.store (us := [iv rv_3.1.Low, iv rv_3.1.High]) 2 sz_33 hF rfl rfl rfl rfl hS rfl rfl fun a w hF hS => step hF (Y.assign hF rfl) rfl fun a hF => nT (seq (region ?_))
 obtain ⟨rv_4, hx_4, h⟩ := ndet h
 refine O.callS (us := [.slice none 0 0]) ca_55 hF hS (w7line_ok hS.stab ([] : List Int) SRc.nil rv_4 hx_4) rfl rfl fun v_3 Dv_4 a w hR_3 hlev_4 hF hS => ?_
 replace hG := hG.mono hlev_4
 replace hs_2 := hs_2.mono hlev_4
 obtain ⟨p_6, c_6, p_7, c_7, rfl, hs_6, hs_7⟩ := hR_3
 have hr_1 : Reps C_int Dv_4 [1] [iv 1] := Reps.cons (C := C_int) (x := 1) (c := [iv 1]) (r := []) rfl (Reps.nil)
 refine O.buildSlice (E := 3) (C := C_int) (xs := [1]) (cs := [iv 1]) (us := [iv 1]) (parts := [(0, (.const (iv 1)))]) 3 hF hS rfl (by kernel_rfl) hr_1 rfl rfl rfl fun p_8 c_8 a w hF hS => ?_
 obtain ⟨Dv_5, hlev_5, hs_8, hS⟩ := hS.freezeC (C := C_int) (i := 3) (xs := [1]) rfl hr_1
 replace hG := hG.mono hlev_5
 replace hs_2 := hs_2.mono hlev_5
 replace hs_6 := hs_6.mono hlev_5
 replace hs_7 := hs_7.mono hlev_5
 have hr_2 : Reps (C_sl C_int) Dv_5 [[1]] [.slice p_8 ([1]).length c_8] := Reps.cons (C := (C_sl C_int)) (x := [1]) (c := [.slice p_8 ([1]).length c_8]) (r := []) (⟨_, _, rfl, hs_8⟩) (Reps.nil)
 refine O.buildSlice (E := 26) (C := (C_sl C_int)) (xs := [[1]]) (cs := [.slice p_8 ([1]).length c_8]) (us := [.slice p_8 ([1]).length c_8]) (parts := [(0, (.tmp 26))]) 4 hF hS rfl (by kernel_rfl) hr_2 rfl rfl rfl fun p_9 c_9 a w hF hS => ?_
 obtain ⟨Dv_6, hlev_6, hs_9, hS⟩ := hS.freezeC (C := (C_sl C_int)) (i := 4) (xs := [[1]]) rfl hr_2
 replace hG := hG.mono hlev_6
 replace hs_2 := hs_2.mono hlev_6
 replace hs_6 := hs_6.mono hlev_6
 replace hs_7 := hs_7.mono hlev_6
 obtain ⟨rv_5, hx_5, h⟩ := ndet h
 refine O.callP (us := [.agg #[iv rv_4.Ring, .slice p_6 rv_4.Starts.length c_6, .slice p_7 rv_4.Events.length c_7], iv 0, .slice p_9 ([[1]]).length c_9]) ca_24 hF hS (slave_IsStory_ok hS.stab rv_4 0 ([[1]]) hs_6 hs_7 hs_9 hG rv_5 hx_5) rfl rfl fun a w hF hS => step hF (Y.move hF rfl) rfl fun a hF => step hF (Y.extract hF rfl rfl) rfl fun a hF => step hF (Y.extract hF rfl rfl) rfl fun a hF => step hF (Y.assign hF rfl) rfl fun a hF => step hF (Y.assign hF rfl) rfl fun a hF => nT (seq (region ?_))
 have hr_3 : Reps C_int Dv_6 [1] [iv 1] := Reps.cons (C := C_int) (x := 1) (c := [iv 1]) (r := []) rfl (Reps.nil)
 refine O.buildSlice (E := 3) (C := C_int) (xs := [1]) (cs := [iv 1]) (us := [iv 1]) (parts := [(0, (.const (iv 1)))]) 5 hF hS rfl (by kernel_rfl) hr_3 rfl rfl rfl fun p_10 c_10 a w hF hS => ?_
 obtain ⟨Dv_7, hlev_7, hs_10, hS⟩ := hS.freezeC (C := C_int) (i := 5) (xs := [1]) rfl hr_3
 replace hG := hG.mono hlev_7
 replace hs_2 := hs_2.mono hlev_7
 obtain ⟨rv_6, hx_6, h⟩ := ndet h
 refine O.callS (us := [.slice p_10 ([1]).length c_10]) ca_55 hF hS (w7line_ok hS.stab ([1]) hs_10 rv_6 hx_6) rfl rfl fun v_4 Dv_8 a w hR_4 hlev_8 hF hS => ?_
 replace hG := hG.mono hlev_8
 replace hs_2 := hs_2.mono hlev_8
 obtain ⟨p_11, c_11, p_12, c_12, rfl, hs_11, hs_12⟩ := hR_4
 obtain ⟨KQ_2, hx_7, hk_2⟩ := nbnd_ex h
 refine O.callSN (us := [.agg #[iv rv_6.Ring, .slice p_11 rv_6.Starts.length c_11, .slice p_12 rv_6.Events.length c_12], iv 0]) ca_26 hF hS (slave_Story_ok hS.stab rv_6 0 hs_11 hs_12 hG KQ_2 hx_7) rfl rfl fun rv_7 h v_5 Dv_9 a w hR_5 hlev_9 hF hS => ?_
 replace h := hk_2 _ h
 replace hG := hG.mono hlev_9
 replace hs_2 := hs_2.mono hlev_9
 obtain ⟨p_13, c_13, rfl, hs_13⟩ := hR_5
 refine step hF (Y.move hF rfl) rfl fun a hF => step hF (Y.extract hF rfl rfl) rfl fun a hF => step hF (Y.extract hF rfl rfl) rfl fun a hF => step hF (Y.assign hF rfl) rfl fun a hF => step hF (Y.assign hF rfl) rfl fun a hF => nT (seq (seq ?_))
 obtain ⟨t, ht, h⟩ := ndet h
 obtain ⟨t_1, ht_1, h⟩ := ndet h
 obtain ⟨t_2, ht_2, h⟩ := ndet h
 obtain ⟨t_3, ht_3, h⟩ := ndet h
 obtain ⟨t_4, ht_4, h⟩ := ndet h
 obtain ⟨t_5, ht_5, h⟩ := ndet h
 obtain ⟨t_6, ht_6, h⟩ := ndet h
 refine drawsV 37 (.flt 0 (.flt 1 (.flt 2 (.flt 3 (.flt 4 (.flt 5 (.flt 6 (.flt 7 (.flt 8 (.flt 9 (.flt 10 (.flt 11 (.flt 12 (.flt 13 (.flt 14 (.flt 15 (.alt 16 (.alt 17 (.flt 18 (.flt 19 (.flt 20 (.flt 21 (.alt 22 (.flt 23 (.flt 24 (.flt 25 (.flt 26 (.flt 27 (.flt 28 (.flt 29 (.flt 30 (.alt 31 (.alt 32 (.alt 33 (.alt 34 (.flt 35 (.flt 36 .done)) .stop) .stop) .stop) (.alt 32 (.alt 31 (.alt 33 (.alt 34 (.flt 35 (.flt 36 .done)) .stop) .stop) .stop) .stop)))))))))) .stop))))) .stop) .stop))))))))))))))))) mixed_ (by kernel_rfl) (fun w => St w0 D0 Dv_9 [(2, .cells b [iv rv_3.1.Low, iv rv_3.1.High] 33)] w) (fun a w => ∃ (Dv_16 : Stab), Dv_9.le Dv_16 ∧ Frm 127 [] [(0, .bool false), (2, iv rv_1.2), (4, iv rv_3.2), (6, iv rv_5.2), (8, iv rv_7.2), (73, .bool t_6)] a ∧ St w0 D0 Dv_16 [(2, .cells b [iv rv_3.1.Low, iv rv_3.1.High] 33)] w) (hS.weak (ms := [(2, .cells b [iv rv_3.1.Low, iv rv_3.1.High] 33)]) ⟨rfl, trivial⟩).drew (fun _ _ _ _ h => h) ?_ ?_
 ·as_aux_lemma =>
   replace hS := hS.drew
   have hle0 := hS.le
   rcases bcases (rv_1.2 != 0) with hbv | hbv
   ·as_aux_lemma =>
     skip
     replace ht := cond_t ht hbv
     obtain rfl := some_inj ht
     replace ht_1 := cond_t ht_1 rfl
     obtain rfl := some_inj ht_1
     replace ht_2 := cond_t ht_2 rfl
     obtain rfl := some_inj ht_2
     replace ht_3 := cond_t ht_3 rfl
     obtain rfl := some_inj ht_3
     replace ht_4 := cond_t ht_4 rfl
     obtain rfl := some_inj ht_4
     replace ht_5 := cond_t ht_5 rfl
     obtain rfl := some_inj ht_5
     replace ht_6 := cond_t ht_6 rfl
     obtain rfl := some_inj ht_6
     refine stepV (i := 0) rfl hF (fun w hS => Y.move hF rfl) rfl fun a hF => stepV (i := 1) rfl hF (fun w hS => Y.neq hF rfl rfl) rfl fun a hF => stepV (i := 2) rfl hF (fun w hS => Y.move hF rfl) rfl fun a hF => stepV_off (i := 3) rfl hF rfl rfl hbv rfl fun a hF => stepV_off (i := 4) rfl hF rfl rfl hbv rfl fun a hF => stepV (i := 5) rfl hF (fun w hS => Y.pick_t hF rfl hbv rfl) rfl fun a hF => stepV (i := 6) rfl hF (fun w hS => Y.move hF rfl) rfl fun a hF => stepV_off (i := 7) rfl hF rfl rfl rfl rfl fun a hF => stepV_off (i := 8) rfl hF rfl rfl rfl rfl fun a hF => stepV (i := 9) rfl hF (fun w hS => Y.pick_t hF rfl rfl rfl) rfl fun a hF => stepV (i := 10) rfl hF (fun w hS => Y.move hF rfl) rfl fun a hF => stepV_off (i := 11) rfl hF rfl rfl rfl rfl fun a hF => stepV_off (i := 12) rfl hF rfl rfl rfl rfl fun a hF => stepV (i := 13) rfl hF (fun w hS => Y.pick_t hF rfl rfl rfl) rfl fun a hF => stepV (i := 14) rfl hF (fun w hS => Y.move hF rfl) rfl fun a hF => stepV_off (i := 15) rfl hF rfl rfl rfl rfl fun a hF => oneV (i := 16) rfl ?_ trivial
     refine guard_off hF rfl rfl rfl rfl fun a hF => nT ⟨hS.weak ⟨rfl, trivial⟩, ?_⟩
     refine oneV (i := 17) rfl ?_ trivial
     refine guard_off hF rfl rfl rfl rfl fun a hF => nT ⟨hS.weak ⟨rfl, trivial⟩, ?_⟩
     refine stepV_off (i := 18) rfl hF rfl rfl rfl rfl fun a hF => stepV (i := 19) rfl hF (fun w hS => Y.pick_t hF rfl rfl rfl) rfl fun a hF => stepV (i := 20) rfl hF (fun w hS => Y.move hF rfl) rfl fun a hF => stepV_off (i := 21) rfl hF rfl rfl rfl rfl fun a hF => oneV (i := 22) rfl ?_ trivial
     refine guard_off hF rfl rfl rfl rfl fun a hF => nT ⟨hS.weak ⟨rfl, trivial⟩, ?_⟩
     refine stepV_off (i := 23) rfl hF rfl rfl rfl rfl fun a hF => stepV (i := 24) rfl hF (fun w hS => Y.pick_t hF rfl rfl rfl) rfl fun a hF => stepV (i := 25) rfl hF (fun w hS => Y.move hF rfl) rfl fun a hF => stepV_off (i := 26) rfl hF rfl rfl rfl rfl fun a hF => stepV_off (i := 27) rfl hF rfl rfl rfl rfl fun a hF => stepV (i := 28) rfl hF (fun w hS => Y.pick_t hF rfl rfl rfl) rfl fun a hF => stepV (i := 29) rfl hF (fun w hS => Y.move hF rfl) rfl fun a hF => stepV_off (i := 30) rfl hF rfl rfl rfl rfl fun a hF => oneV (i := 31) rfl ?_ ?_
     ·skip
      refine guard_off hF rfl rfl rfl rfl fun a hF => nT ⟨hS.weak ⟨rfl, trivial⟩, ?_⟩
      refine oneV (i := 32) rfl ?_ trivial
      refine guard_off hF rfl rfl rfl rfl fun a hF => nT ⟨hS.weak ⟨rfl, trivial⟩, ?_⟩
      refine oneV (i := 33) rfl ?_ trivial
      refine guard_off hF rfl rfl rfl rfl fun a hF => nT ⟨hS.weak ⟨rfl, trivial⟩, ?_⟩
      refine oneV (i := 34) rfl ?_ trivial
      refine guard_off hF rfl rfl rfl rfl fun a hF => nT ⟨hS.weak ⟨rfl, trivial⟩, ?_⟩
      refine stepV_off (i := 35) rfl hF rfl rfl rfl rfl fun a hF => stepV (i := 36) rfl hF (fun w hS => Y.pick_t hF rfl rfl rfl) rfl fun a hF => toTailV ⟨Dv_9, Stab.le.refl _, hF.weak (AF rfl), hS.weak ⟨rfl, trivial⟩⟩
     refine oneV (i := 32) rfl ?_ trivial
     refine guard_off hF rfl rfl rfl rfl fun a hF => nT ⟨hS.weak ⟨rfl, trivial⟩, ?_⟩
     refine oneV (i := 31) rfl ?_ trivial
     refine guard_off hF rfl rfl rfl rfl fun a hF => nT ⟨hS.weak ⟨rfl, trivial⟩, ?_⟩
     refine oneV (i := 33) rfl ?_ trivial
     refine guard_off hF rfl rfl rfl rfl fun a hF => nT ⟨hS.weak ⟨rfl, trivial⟩, ?_⟩
     refine oneV (i := 34) rfl ?_ trivial
     refine guard_off hF rfl rfl rfl rfl fun a hF => nT ⟨hS.weak ⟨rfl, trivial⟩, ?_⟩
     refine stepV_off (i := 35) rfl hF rfl rfl rfl rfl fun a hF => stepV (i := 36) rfl hF (fun w hS => Y.pick_t hF rfl rfl rfl) rfl fun a hF => toTailV ⟨Dv_9, Stab.le.refl _, hF.weak (AF rfl), hS.weak ⟨rfl, trivial⟩⟩
   as_aux_lemma =>
    skip
    replace ht := cond_f ht hbv
    obtain rfl := some_inj ht
    rcases bcases (rv_3.2 != 0) with hbv_1 | hbv_1
    ·as_aux_lemma =>
      skip
      replace ht_1 := cond_t ht_1 hbv_1
      obtain rfl := some_inj ht_1
      replace ht_2 := cond_t ht_2 rfl
      obtain rfl := some_inj ht_2
      replace ht_3 := cond_t ht_3 rfl
      obtain rfl := some_inj ht_3
      replace ht_4 := cond_t ht_4 rfl
      obtain rfl := some_inj ht_4
      replace ht_5 := cond_t ht_5 rfl
      obtain rfl := some_inj ht_5
      replace ht_6 := cond_t ht_6 rfl
      obtain rfl := some_inj ht_6
      refine stepV (i := 0) rfl hF (fun w hS => Y.move hF rfl) rfl fun a hF => stepV (i := 1) rfl hF (fun w hS => Y.neq hF rfl rfl) rfl fun a hF => stepV (i := 2) rfl hF (fun w hS => Y.move hF rfl) rfl fun a hF => stepV_on (i := 3) rfl hF rfl rfl hbv (fun w hS => Y.move hF rfl) rfl fun a hF => stepV_on (i := 4) rfl hF rfl rfl hbv (fun w hS => Y.neq hF rfl rfl) rfl fun a hF => stepV (i := 5) rfl hF (fun w hS => Y.pick_f hF rfl hbv rfl) rfl fun a hF => stepV (i := 6) rfl hF (fun w hS => Y.move hF rfl) rfl fun a hF => stepV_off (i := 7) rfl hF rfl rfl hbv_1 rfl fun a hF => stepV_off (i := 8) rfl hF rfl rfl hbv_1 rfl fun a hF => stepV (i := 9) rfl hF (fun w hS => Y.pick_t hF rfl hbv_1 rfl) rfl fun a hF => stepV (i := 10) rfl hF (fun w hS => Y.move hF rfl) rfl fun a hF => stepV_off (i := 11) rfl hF rfl rfl rfl rfl fun a hF => stepV_off (i := 12) rfl hF rfl rfl rfl rfl fun a hF => stepV (i := 13) rfl hF (fun w hS => Y.pick_t hF rfl rfl rfl) rfl fun a hF => stepV (i := 14) rfl hF (fun w hS => Y.move hF rfl) rfl fun a hF => stepV_off (i := 15) rfl hF rfl rfl rfl rfl fun a hF => oneV (i := 16) rfl ?_ trivial
      refine guard_off hF rfl rfl rfl rfl fun a hF => nT ⟨hS.weak ⟨rfl, trivial⟩, ?_⟩
      refine oneV (i := 17) rfl ?_ trivial
      refine guard_off hF rfl rfl rfl rfl fun a hF => nT ⟨hS.weak ⟨rfl, trivial⟩, ?_⟩
      refine stepV_off (i := 18) rfl hF rfl rfl rfl rfl fun a hF => stepV (i := 19) rfl hF (fun w hS => Y.pick_t hF rfl rfl rfl) rfl fun a hF => stepV (i := 20) rfl hF (fun w hS => Y.move hF rfl) rfl fun a hF => stepV_off (i := 21) rfl hF rfl rfl rfl rfl fun a hF => oneV (i := 22) rfl ?_ trivial
      refine guard_off hF rfl rfl rfl rfl fun a hF => nT ⟨hS.weak ⟨rfl, trivial⟩, ?_⟩
      refine stepV_off (i := 23) rfl hF rfl rfl rfl rfl fun a hF => stepV (i := 24) rfl hF (fun w hS => Y.pick_t hF rfl rfl rfl) rfl fun a hF => stepV (i := 25) rfl hF (fun w hS => Y.move hF rfl) rfl fun a hF => stepV_off (i := 26) rfl hF rfl rfl rfl rfl fun a hF => stepV_off (i := 27) rfl hF rfl rfl rfl rfl fun a hF => stepV (i := 28) rfl hF (fun w hS => Y.pick_t hF rfl rfl rfl) rfl fun a hF => stepV (i := 29) rfl hF (fun w hS => Y.move hF rfl) rfl fun a hF => stepV_off (i := 30) rfl hF rfl rfl rfl rfl fun a hF => oneV (i := 31) rfl ?_ ?_
      ·skip
       refine guard_off hF rfl rfl rfl rfl fun a hF => nT ⟨hS.weak ⟨rfl, trivial⟩, ?_⟩
       refine oneV (i := 32) rfl ?_ trivial
       refine guard_off hF rfl rfl rfl rfl fun a hF => nT ⟨hS.weak ⟨rfl, trivial⟩, ?_⟩
       refine oneV (i := 33) rfl ?_ trivial
       refine guard_off hF rfl rfl rfl rfl fun a hF => nT ⟨hS.weak ⟨rfl, trivial⟩, ?_⟩
       refine oneV (i := 34) rfl ?_ trivial
       refine guard_off hF rfl rfl rfl rfl fun a hF => nT ⟨hS.weak ⟨rfl, trivial⟩, ?_⟩
       refine stepV_off (i := 35) rfl hF rfl rfl rfl rfl fun a hF => stepV (i := 36) rfl hF (fun w hS => Y.pick_t hF rfl rfl rfl) rfl fun a hF => toTailV ⟨Dv_9, Stab.le.refl _, hF.weak (AF rfl), hS.weak ⟨rfl, trivial⟩⟩
      refine oneV (i := 32) rfl ?_ trivial
      refine guard_off hF rfl rfl rfl rfl fun a hF => nT ⟨hS.weak ⟨rfl, trivial⟩, ?_⟩
      refine oneV (i := 31) rfl ?_ trivial
      refine guard_off hF rfl rfl rfl rfl fun a hF => nT ⟨hS.weak ⟨rfl, trivial⟩, ?_⟩
      refine oneV (i := 33) rfl ?_ trivial
      refine guard_off hF rfl rfl rfl rfl fun a hF => nT ⟨hS.weak ⟨rfl, trivial⟩, ?_⟩
      refine oneV (i := 34) rfl ?_ trivial
      refine guard_off hF rfl rfl rfl rfl fun a hF => nT ⟨hS.weak ⟨rfl, trivial⟩, ?_⟩
      refine stepV_off (i := 35) rfl hF rfl rfl rfl rfl fun a hF => stepV (i := 36) rfl hF (fun w hS => Y.pick_t hF rfl rfl rfl) rfl fun a hF => toTailV ⟨Dv_9, Stab.le.refl _, hF.weak (AF rfl), hS.weak ⟨rfl, trivial⟩⟩
    as_aux_lemma =>
     skip
     replace ht_1 := cond_f ht_1 hbv_1
     obtain rfl := some_inj ht_1
     rcases bcases (rv_5.2 != 0) with hbv_2 | hbv_2
     ·as_aux_lemma =>
       skip
       replace ht_2 := cond_t ht_2 hbv_2
       obtain rfl := some_inj ht_2
       replace ht_3 := cond_t ht_3 rfl
       obtain rfl := some_inj ht_3
       replace ht_4 := cond_t ht_4 rfl
       obtain rfl := some_inj ht_4
       replace ht_5 := cond_t ht_5 rfl
       obtain rfl := some_inj ht_5
       replace ht_6 := cond_t ht_6 rfl
       obtain rfl := some_inj ht_6
       refine stepV (i := 0) rfl hF (fun w hS => Y.move hF rfl) rfl fun a hF => stepV (i := 1) rfl hF (fun w hS => Y.neq hF rfl rfl) rfl fun a hF => stepV (i := 2) rfl hF (fun w hS => Y.move hF rfl) rfl fun a hF => stepV_on (i := 3) rfl hF rfl rfl hbv (fun w hS => Y.move hF rfl) rfl fun a hF => stepV_on (i := 4) rfl hF rfl rfl hbv (fun w hS => Y.neq hF rfl rfl) rfl fun a hF => stepV (i := 5) rfl hF (fun w hS => Y.pick_f hF rfl hbv rfl) rfl fun a hF => stepV (i := 6) rfl hF (fun w hS => Y.move hF rfl) rfl fun a hF => stepV_on (i := 7) rfl hF rfl rfl hbv_1 (fun w hS => Y.move hF rfl) rfl fun a hF => stepV_on (i := 8) rfl hF rfl rfl hbv_1 (fun w hS => Y.neq hF rfl rfl) rfl fun a hF => stepV (i := 9) rfl hF (fun w hS => Y.pick_f hF rfl hbv_1 rfl) rfl fun a hF => stepV (i := 10) rfl hF (fun w hS => Y.move hF rfl) rfl fun a hF => stepV_off (i := 11) rfl hF rfl rfl hbv_2 rfl fun a hF => stepV_off (i := 12) rfl hF rfl rfl hbv_2 rfl fun a hF => stepV (i := 13) rfl hF (fun w hS => Y.pick_t hF rfl hbv_2 rfl) rfl fun a hF => stepV (i := 14) rfl hF (fun w hS => Y.move hF rfl) rfl fun a hF => stepV_off (i := 15) rfl hF rfl rfl rfl rfl fun a hF => oneV (i := 16) rfl ?_ trivial
       refine guard_off hF rfl rfl rfl rfl fun a hF => nT ⟨hS.weak ⟨rfl, trivial⟩, ?_⟩
       refine oneV (i := 17) rfl ?_ trivial
       refine guard_off hF rfl rfl rfl rfl fun a hF => nT ⟨hS.weak ⟨rfl, trivial⟩, ?_⟩
       refine stepV_off (i := 18) rfl hF rfl rfl rfl rfl fun a hF => stepV (i := 19) rfl hF (fun w hS => Y.pick_t hF rfl rfl rfl) rfl fun a hF => stepV (i := 20) rfl hF (fun w hS => Y.move hF rfl) rfl fun a hF => stepV_off (i := 21) rfl hF rfl rfl rfl rfl fun a hF => oneV (i := 22) rfl ?_ trivial
       refine guard_off hF rfl rfl rfl rfl fun a hF => nT ⟨hS.weak ⟨rfl, trivial⟩, ?_⟩
       refine stepV_off (i := 23) rfl hF rfl rfl rfl rfl fun a hF => stepV (i := 24) rfl hF (fun w hS => Y.pick_t hF rfl rfl rfl) rfl fun a hF => stepV (i := 25) rfl hF (fun w hS => Y.move hF rfl) rfl fun a hF => stepV_off (i := 26) rfl hF rfl rfl rfl rfl fun a hF => stepV_off (i := 27) rfl hF rfl rfl rfl rfl fun a hF => stepV (i := 28) rfl hF (fun w hS => Y.pick_t hF rfl rfl rfl) rfl fun a hF => stepV (i := 29) rfl hF (fun w hS => Y.move hF rfl) rfl fun a hF => stepV_off (i := 30) rfl hF rfl rfl rfl rfl fun a hF => oneV (i := 31) rfl ?_ ?_
       ·skip
        refine guard_off hF rfl rfl rfl rfl fun a hF => nT ⟨hS.weak ⟨rfl, trivial⟩, ?_⟩
        refine oneV (i := 32) rfl ?_ trivial
        refine guard_off hF rfl rfl rfl rfl fun a hF => nT ⟨hS.weak ⟨rfl, trivial⟩, ?_⟩
        refine oneV (i := 33) rfl ?_ trivial
        refine guard_off hF rfl rfl rfl rfl fun a hF => nT ⟨hS.weak ⟨rfl, trivial⟩, ?_⟩
        refine oneV (i := 34) rfl ?_ trivial
        refine guard_off hF rfl rfl rfl rfl fun a hF => nT ⟨hS.weak ⟨rfl, trivial⟩, ?_⟩
        refine stepV_off (i := 35) rfl hF rfl rfl rfl rfl fun a hF => stepV (i := 36) rfl hF (fun w hS => Y.pick_t hF rfl rfl rfl) rfl fun a hF => toTailV ⟨Dv_9, Stab.le.refl _, hF.weak (AF rfl), hS.weak ⟨rfl, trivial⟩⟩
       refine oneV (i := 32) rfl ?_ trivial
       refine guard_off hF rfl rfl rfl rfl fun a hF => nT ⟨hS.weak ⟨rfl, trivial⟩, ?_⟩
       refine oneV (i := 31) rfl ?_ trivial
       refine guard_off hF rfl rfl rfl rfl fun a hF => nT ⟨hS.weak ⟨rfl, trivial⟩, ?_⟩
       refine oneV (i := 33) rfl ?_ trivial
       refine guard_off hF rfl rfl rfl rfl fun a hF => nT ⟨hS.weak ⟨rfl, trivial⟩, ?_⟩
       refine oneV (i := 34) rfl ?_ trivial
       refine guard_off hF rfl rfl rfl rfl fun a hF => nT ⟨hS.weak ⟨rfl, trivial⟩, ?_⟩
       refine stepV_off (i := 35) rfl hF rfl rfl rfl rfl fun a hF => stepV (i := 36) rfl hF (fun w hS => Y.pick_t hF rfl rfl rfl) rfl fun a hF => toTailV ⟨Dv_9, Stab.le.refl _, hF.weak (AF rfl), hS.weak ⟨rfl, trivial⟩⟩
     as_aux_lemma =>
      skip
      replace ht_2 := cond_f ht_2 hbv_2
      obtain rfl := some_inj ht_2
      rcases bcases (rv_7.2 != 0) with hbv_3 | hbv_3
      ·as_aux_lemma =>
        skip
        replace ht_3 := cond_t ht_3 hbv_3
        obtain rfl := some_inj ht_3
        replace ht_4 := cond_t ht_4 rfl
        obtain rfl := some_inj ht_4
        replace ht_5 := cond_t ht_5 rfl
        obtain rfl := some_inj ht_5
        replace ht_6 := cond_t ht_6 rfl
        obtain rfl := some_inj ht_6
        refine stepV (i := 0) rfl hF (fun w hS => Y.move hF rfl) rfl fun a hF => stepV (i := 1) rfl hF (fun w hS => Y.neq hF rfl rfl) rfl fun a hF => stepV (i := 2) rfl hF (fun w hS => Y.move hF rfl) rfl fun a hF => stepV_on (i := 3) rfl hF rfl rfl hbv (fun w hS => Y.move hF rfl) rfl fun a hF => stepV_on (i := 4) rfl hF rfl rfl hbv (fun w hS => Y.neq hF rfl rfl) rfl fun a hF => stepV (i := 5) rfl hF (fun w hS => Y.pick_f hF rfl hbv rfl) rfl fun a hF => stepV (i := 6) rfl hF (fun w hS => Y.move hF rfl) rfl fun a hF => stepV_on (i := 7) rfl hF rfl rfl hbv_1 (fun w hS => Y.move hF rfl) rfl fun a hF => stepV_on (i := 8) rfl hF rfl rfl hbv_1 (fun w hS => Y.neq hF rfl rfl) rfl fun a hF => stepV (i := 9) rfl hF (fun w hS => Y.pick_f hF rfl hbv_1 rfl) rfl fun a hF => stepV (i := 10) rfl hF (fun w hS => Y.move hF rfl) rfl fun a hF => stepV_on (i := 11) rfl hF rfl rfl hbv_2 (fun w hS => Y.move hF rfl) rfl fun a hF => stepV_on (i := 12) rfl hF rfl rfl hbv_2 (fun w hS => Y.neq hF rfl rfl) rfl fun a hF => stepV (i := 13) rfl hF (fun w hS => Y.pick_f hF rfl hbv_2 rfl) rfl fun a hF => stepV (i := 14) rfl hF (fun w hS => Y.move hF rfl) rfl fun a hF => stepV_off (i := 15) rfl hF rfl rfl hbv_3 rfl fun a hF => oneV (i := 16) rfl ?_ trivial
        refine guard_off hF rfl rfl hbv_3 rfl fun a hF => nT ⟨hS.weak ⟨rfl, trivial⟩, ?_⟩
        refine oneV (i := 17) rfl ?_ trivial
        refine guard_off hF rfl rfl hbv_3 rfl fun a hF => nT ⟨hS.weak ⟨rfl, trivial⟩, ?_⟩
        refine stepV_off (i := 18) rfl hF rfl rfl hbv_3 rfl fun a hF => stepV (i := 19) rfl hF (fun w hS => Y.pick_t hF rfl hbv_3 rfl) rfl fun a hF => stepV (i := 20) rfl hF (fun w hS => Y.move hF rfl) rfl fun a hF => stepV_off (i := 21) rfl hF rfl rfl rfl rfl fun a hF => oneV (i := 22) rfl ?_ trivial
        refine guard_off hF rfl rfl rfl rfl fun a hF => nT ⟨hS.weak ⟨rfl, trivial⟩, ?_⟩
        refine stepV_off (i := 23) rfl hF rfl rfl rfl rfl fun a hF => stepV (i := 24) rfl hF (fun w hS => Y.pick_t hF rfl rfl rfl) rfl fun a hF => stepV (i := 25) rfl hF (fun w hS => Y.move hF rfl) rfl fun a hF => stepV_off (i := 26) rfl hF rfl rfl rfl rfl fun a hF => stepV_off (i := 27) rfl hF rfl rfl rfl rfl fun a hF => stepV (i := 28) rfl hF (fun w hS => Y.pick_t hF rfl rfl rfl) rfl fun a hF => stepV (i := 29) rfl hF (fun w hS => Y.move hF rfl) rfl fun a hF => stepV_off (i := 30) rfl hF rfl rfl rfl rfl fun a hF => oneV (i := 31) rfl ?_ ?_
        ·skip
         refine guard_off hF rfl rfl rfl rfl fun a hF => nT ⟨hS.weak ⟨rfl, trivial⟩, ?_⟩
         refine oneV (i := 32) rfl ?_ trivial
         refine guard_off hF rfl rfl rfl rfl fun a hF => nT ⟨hS.weak ⟨rfl, trivial⟩, ?_⟩
         refine oneV (i := 33) rfl ?_ trivial
         refine guard_off hF rfl rfl rfl rfl fun a hF => nT ⟨hS.weak ⟨rfl, trivial⟩, ?_⟩
         refine oneV (i := 34) rfl ?_ trivial
         refine guard_off hF rfl rfl rfl rfl fun a hF => nT ⟨hS.weak ⟨rfl, trivial⟩, ?_⟩
         refine stepV_off (i := 35) rfl hF rfl rfl rfl rfl fun a hF => stepV (i := 36) rfl hF (fun w hS => Y.pick_t hF rfl rfl rfl) rfl fun a hF => toTailV ⟨Dv_9, Stab.le.refl _, hF.weak (AF rfl), hS.weak ⟨rfl, trivial⟩⟩
        refine oneV (i := 32) rfl ?_ trivial
        refine guard_off hF rfl rfl rfl rfl fun a hF => nT ⟨hS.weak ⟨rfl, trivial⟩, ?_⟩
        refine oneV (i := 31) rfl ?_ trivial
        refine guard_off hF rfl rfl rfl rfl fun a hF => nT ⟨hS.weak ⟨rfl, trivial⟩, ?_⟩
        refine oneV (i := 33) rfl ?_ trivial
        refine guard_off hF rfl rfl rfl rfl fun a hF => nT ⟨hS.weak ⟨rfl, trivial⟩, ?_⟩
        refine oneV (i := 34) rfl ?_ trivial
        refine guard_off hF rfl rfl rfl rfl fun a hF => nT ⟨hS.weak ⟨rfl, trivial⟩, ?_⟩
        refine stepV_off (i := 35) rfl hF rfl rfl rfl rfl fun a hF => stepV (i := 36) rfl hF (fun w hS => Y.pick_t hF rfl rfl rfl) rfl fun a hF => toTailV ⟨Dv_9, Stab.le.refl _, hF.weak (AF rfl), hS.weak ⟨rfl, trivial⟩⟩
      as_aux_lemma =>
       skip
       replace ht_3 := cond_f ht_3 hbv_3
       obtain ⟨rv_8, hx_8, ht_3⟩ := bind_some ht_3
       obtain rfl := some_inj ht_3
       rcases bcases (!rv_8) with hbv_4 | hbv_4
       ·as_aux_lemma =>
         skip
         replace ht_4 := cond_t ht_4 hbv_4
         obtain rfl := some_inj ht_4
         replace ht_5 := cond_t ht_5 rfl
         obtain rfl := some_inj ht_5
         replace ht_6 := cond_t ht_6 rfl
         obtain rfl := some_inj ht_6
         refine stepV (i := 0) rfl hF (fun w hS => Y.move hF rfl) rfl fun a hF => stepV (i := 1) rfl hF (fun w hS => Y.neq hF rfl rfl) rfl fun a hF => stepV (i := 2) rfl hF (fun w hS => Y.move hF rfl) rfl fun a hF => stepV_on (i := 3) rfl hF rfl rfl hbv (fun w hS => Y.move hF rfl) rfl fun a hF => stepV_on (i := 4) rfl hF rfl rfl hbv (fun w hS => Y.neq hF rfl rfl) rfl fun a hF => stepV (i := 5) rfl hF (fun w hS => Y.pick_f hF rfl hbv rfl) rfl fun a hF => stepV (i := 6) rfl hF (fun w hS => Y.move hF rfl) rfl fun a hF => stepV_on (i := 7) rfl hF rfl rfl hbv_1 (fun w hS => Y.move hF rfl) rfl fun a hF => stepV_on (i := 8) rfl hF rfl rfl hbv_1 (fun w hS => Y.neq hF rfl rfl) rfl fun a hF => stepV (i := 9) rfl hF (fun w hS => Y.pick_f hF rfl hbv_1 rfl) rfl fun a hF => stepV (i := 10) rfl hF (fun w hS => Y.move hF rfl) rfl fun a hF => stepV_on (i := 11) rfl hF rfl rfl hbv_2 (fun w hS => Y.move hF rfl) rfl fun a hF => stepV_on (i := 12) rfl hF rfl rfl hbv_2 (fun w hS => Y.neq hF rfl rfl) rfl fun a hF => stepV (i := 13) rfl hF (fun w hS => Y.pick_f hF rfl hbv_2 rfl) rfl fun a hF => stepV (i := 14) rfl hF (fun w hS => Y.move hF rfl) rfl fun a hF => stepV_on (i := 15) rfl hF rfl rfl hbv_3 (fun w hS => Y.move hF rfl) rfl fun a hF => oneV (i := 16) rfl ?_ trivial
         refine guard_on hF rfl rfl hbv_3 ?_
         have hr_8 : Reps C_int Dv_9 [0, 1, 2] [iv 0, iv 1, iv 2] := Reps.cons (C := C_int) (x := 0) (c := [iv 0]) (r := [iv 1, iv 2]) rfl (Reps.cons (C := C_int) (x := 1) (c := [iv 1]) (r := [iv 2]) rfl (Reps.cons (C := C_int) (x := 2) (c := [iv 2]) (r := []) rfl (Reps.nil)))
         refine O.buildSlice (E := 3) (C := C_int) (xs := [0, 1, 2]) (cs := [iv 0, iv 1, iv 2]) (us := [iv 0, iv 1, iv 2]) (parts := [(0, (.const (iv 0))), (1, (.const (iv 1))), (2, (.const (iv 2)))]) 6 hF hS rfl (by kernel_rfl) hr_8 rfl rfl rfl fun p_18 c_18 a w hF hS => nT ⟨hS.weak ⟨rfl, trivial⟩, ?_⟩
         refine oneV (i := 17) rfl ?_ trivial
         refine guard_on hF rfl rfl hbv_3 ?_
         obtain ⟨Dv_17, hlev_16, hs_18, hS⟩ := hS.freezeC (C := C_int) (i := 6) (xs := [0, 1, 2]) rfl hr_8
         replace hs_2 := hs_2.mono hlev_16
         refine O.callP (us := [.slice p_2 rv_1.1.length c_2, .slice p_18 ([0, 1, 2]).length c_18]) ca_18 hF hS (r0Alike_ok hS.stab rv_1.1 ([0, 1, 2]) hs_2 hs_18 rv_8 hx_8) rfl rfl fun a w hF hS => nT ⟨(hS.weak (ms := [(2, .cells b [iv rv_3.1.Low, iv rv_3.1.High] 33)]) ⟨rfl, trivial⟩).weakD hlev_16 hle0, ?_⟩
         refine stepV_on (i := 18) rfl hF rfl rfl hbv_3 (fun w hS => Y.not hF rfl) rfl fun a hF => stepV (i := 19) rfl hF (fun w hS => Y.pick_f hF rfl hbv_3 rfl) rfl fun a hF => stepV (i := 20) rfl hF (fun w hS => Y.move hF rfl) rfl fun a hF => stepV_off (i := 21) rfl hF rfl rfl hbv_4 rfl fun a hF => oneV (i := 22) rfl ?_ trivial
         refine guard_off hF rfl rfl hbv_4 rfl fun a hF => nT ⟨(hS.weak (ms := [(2, .cells b [iv rv_3.1.Low, iv rv_3.1.High] 33)]) ⟨rfl, trivial⟩).weakD hlev_16 hle0, ?_⟩
         refine stepV_off (i := 23) rfl hF rfl rfl hbv_4 rfl fun a hF => stepV (i := 24) rfl hF (fun w hS => Y.pick_t hF rfl hbv_4 rfl) rfl fun a hF => stepV (i := 25) rfl hF (fun w hS => Y.move hF rfl) rfl fun a hF => stepV_off (i := 26) rfl hF rfl rfl rfl rfl fun a hF => stepV_off (i := 27) rfl hF rfl rfl rfl rfl fun a hF => stepV (i := 28) rfl hF (fun w hS => Y.pick_t hF rfl rfl rfl) rfl fun a hF => stepV (i := 29) rfl hF (fun w hS => Y.move hF rfl) rfl fun a hF => stepV_off (i := 30) rfl hF rfl rfl rfl rfl fun a hF => oneV (i := 31) rfl ?_ ?_
         ·skip
          refine guard_off hF rfl rfl rfl rfl fun a hF => nT ⟨(hS.weak (ms := [(2, .cells b [iv rv_3.1.Low, iv rv_3.1.High] 33)]) ⟨rfl, trivial⟩).weakD hlev_16 hle0, ?_⟩
          refine oneV (i := 32) rfl ?_ trivial
          refine guard_off hF rfl rfl rfl rfl fun a hF => nT ⟨(hS.weak (ms := [(2, .cells b [iv rv_3.1.Low, iv rv_3.1.High] 33)]) ⟨rfl, trivial⟩).weakD hlev_16 hle0, ?_⟩
          refine oneV (i := 33) rfl ?_ trivial
          refine guard_off hF rfl rfl rfl rfl fun a hF => nT ⟨(hS.weak (ms := [(2, .cells b [iv rv_3.1.Low, iv rv_3.1.High] 33)]) ⟨rfl, trivial⟩).weakD hlev_16 hle0, ?_⟩
          refine oneV (i := 34) rfl ?_ trivial
          refine guard_off hF rfl rfl rfl rfl fun a hF => nT ⟨(hS.weak (ms := [(2, .cells b [iv rv_3.1.Low, iv rv_3.1.High] 33)]) ⟨rfl, trivial⟩).weakD hlev_16 hle0, ?_⟩
          refine stepV_off (i := 35) rfl hF rfl rfl rfl rfl fun a hF => stepV (i := 36) rfl hF (fun w hS => Y.pick_t hF rfl rfl rfl) rfl fun a hF => toTailV ⟨Dv_17, hlev_16, hF.weak (AF rfl), hS.weak ⟨rfl, trivial⟩⟩
         refine oneV (i := 32) rfl ?_ trivial
         refine guard_off hF rfl rfl rfl rfl fun a hF => nT ⟨(hS.weak (ms := [(2, .cells b [iv rv_3.1.Low, iv rv_3.1.High] 33)]) ⟨rfl, trivial⟩).weakD hlev_16 hle0, ?_⟩
         refine oneV (i := 31) rfl ?_ trivial
         refine guard_off hF rfl rfl rfl rfl fun a hF => nT ⟨(hS.weak (ms := [(2, .cells b [iv rv_3.1.Low, iv rv_3.1.High] 33)]) ⟨rfl, trivial⟩).weakD hlev_16 hle0, ?_⟩
         refine oneV (i := 33) rfl ?_ trivial
         refine guard_off hF rfl rfl rfl rfl fun a hF => nT ⟨(hS.weak (ms := [(2, .cells b [iv rv_3.1.Low, iv rv_3.1.High] 33)]) ⟨rfl, trivial⟩).weakD hlev_16 hle0, ?_⟩
         refine oneV (i := 34) rfl ?_ trivial
         refine guard_off hF rfl rfl rfl rfl fun a hF => nT ⟨(hS.weak (ms := [(2, .cells b [iv rv_3.1.Low, iv rv_3.1.High] 33)]) ⟨rfl, trivial⟩).weakD hlev_16 hle0, ?_⟩
         refine stepV_off (i := 35) rfl hF rfl rfl rfl rfl fun a hF => stepV (i := 36) rfl hF (fun w hS => Y.pick_t hF rfl rfl rfl) rfl fun a hF => toTailV ⟨Dv_17, hlev_16, hF.weak (AF rfl), hS.weak ⟨rfl, trivial⟩⟩
       as_aux_lemma =>
        skip
        replace ht_4 := cond_f ht_4 hbv_4
        obtain ⟨rv_9, hx_9, ht_4⟩ := bind_some ht_4
        obtain rfl := some_inj ht_4
        rcases bcases (!([rv_3.1.Low, rv_3.1.High] == [rv_9.Low, rv_9.High])) with hbv_5 | hbv_5
        ·as_aux_lemma =>
          skip
          replace ht_5 := cond_t ht_5 hbv_5
          obtain rfl := some_inj ht_5
          replace ht_6 := cond_t ht_6 rfl
          obtain rfl := some_inj ht_6
          refine stepV (i := 0) rfl hF (fun w hS => Y.move hF rfl) rfl fun a hF => stepV (i := 1) rfl hF (fun w hS => Y.neq hF rfl rfl) rfl fun a hF => stepV (i := 2) rfl hF (fun w hS => Y.move hF rfl) rfl fun a hF => stepV_on (i := 3) rfl hF rfl rfl hbv (fun w hS => Y.move hF rfl) rfl fun a hF => stepV_on (i := 4) rfl hF rfl rfl hbv (fun w hS => Y.neq hF rfl rfl) rfl fun a hF => stepV (i := 5) rfl hF (fun w hS => Y.pick_f hF rfl hbv rfl) rfl fun a hF => stepV (i := 6) rfl hF (fun w hS => Y.move hF rfl) rfl fun a hF => stepV_on (i := 7) rfl hF rfl rfl hbv_1 (fun w hS => Y.move hF rfl) rfl fun a hF => stepV_on (i := 8) rfl hF rfl rfl hbv_1 (fun w hS => Y.neq hF rfl rfl) rfl fun a hF => stepV (i := 9) rfl hF (fun w hS => Y.pick_f hF rfl hbv_1 rfl) rfl fun a hF => stepV (i := 10) rfl hF (fun w hS => Y.move hF rfl) rfl fun a hF => stepV_on (i := 11) rfl hF rfl rfl hbv_2 (fun w hS => Y.move hF rfl) rfl fun a hF => stepV_on (i := 12) rfl hF rfl rfl hbv_2 (fun w hS => Y.neq hF rfl rfl) rfl fun a hF => stepV (i := 13) rfl hF (fun w hS => Y.pick_f hF rfl hbv_2 rfl) rfl fun a hF => stepV (i := 14) rfl hF (fun w hS => Y.move hF rfl) rfl fun a hF => stepV_on (i := 15) rfl hF rfl rfl hbv_3 (fun w hS => Y.move hF rfl) rfl fun a hF => oneV (i := 16) rfl ?_ trivial
          refine guard_on hF rfl rfl hbv_3 ?_
          have hr_9 : Reps C_int Dv_9 [0, 1, 2] [iv 0, iv 1, iv 2] := Reps.cons (C := C_int) (x := 0) (c := [iv 0]) (r := [iv 1, iv 2]) rfl (Reps.cons (C := C_int) (x := 1) (c := [iv 1]) (r := [iv 2]) rfl (Reps.cons (C := C_int) (x := 2) (c := [iv 2]) (r := []) rfl (Reps.nil)))
          refine O.buildSlice (E := 3) (C := C_int) (xs := [0, 1, 2]) (cs := [iv 0, iv 1, iv 2]) (us := [iv 0, iv 1, iv 2]) (parts := [(0, (.const (iv 0))), (1, (.const (iv 1))), (2, (.const (iv 2)))]) 6 hF hS rfl (by kernel_rfl) hr_9 rfl rfl rfl fun p_19 c_19 a w hF hS => nT ⟨hS.weak ⟨rfl, trivial⟩, ?_⟩
          refine oneV (i := 17) rfl ?_ trivial
          refine guard_on hF rfl rfl hbv_3 ?_
          obtain ⟨Dv_18, hlev_17, hs_19, hS⟩ := hS.freezeC (C := C_int) (i := 6) (xs := [0, 1, 2]) rfl hr_9
          replace hs_2 := hs_2.mono hlev_17
          refine O.callP (us := [.slice p_2 rv_1.1.length c_2, .slice p_19 ([0, 1, 2]).length c_19]) ca_18 hF hS (r0Alike_ok hS.stab rv_1.1 ([0, 1, 2]) hs_2 hs_19 rv_8 hx_8) rfl rfl fun a w hF hS => nT ⟨(hS.weak (ms := [(2, .cells b [iv rv_3.1.Low, iv rv_3.1.High] 33)]) ⟨rfl, trivial⟩).weakD hlev_17 hle0, ?_⟩
          refine stepV_on (i := 18) rfl hF rfl rfl hbv_3 (fun w hS => Y.not hF rfl) rfl fun a hF => stepV (i := 19) rfl hF (fun w hS => Y.pick_f hF rfl hbv_3 rfl) rfl fun a hF => stepV (i := 20) rfl hF (fun w hS => Y.move hF rfl) rfl fun a hF => stepV_on (i := 21) rfl hF rfl rfl hbv_4 (fun w hS => Y.loadNL 2 sz_33 hF rfl hS rfl rfl rfl) rfl fun a hF => oneV (i := 22) rfl ?_ trivial
          refine guard_on hF rfl rfl hbv_4 (O.callP (us := [iv 1, iv 1]) ca_43 hF hS (r0To_ok hS.stab 1 1 rv_9 hx_9) rfl rfl fun a w hF hS => nT ⟨(hS.weak (ms := [(2, .cells b [iv rv_3.1.Low, iv rv_3.1.High] 33)]) ⟨rfl, trivial⟩).weakD hlev_17 hle0, ?_⟩)
          refine stepV_on (i := 23) rfl hF rfl rfl hbv_4 (fun w hS => Y.nest (fun w => eqT_33.equal (by decide) (l := [rv_3.1.Low, rv_3.1.High]) (m := [rv_9.Low, rv_9.High]) rfl rfl) (fun w => run_eqGuard_agg _ _ _ _ _ _ _ eg_33) hF rfl rfl) rfl fun a hF => stepV (i := 24) rfl hF (fun w hS => Y.pick_f hF rfl hbv_4 rfl) rfl fun a hF => stepV (i := 25) rfl hF (fun w hS => Y.move hF rfl) rfl fun a hF => stepV_off (i := 26) rfl hF rfl rfl hbv_5 rfl fun a hF => stepV_off (i := 27) rfl hF rfl rfl hbv_5 rfl fun a hF => stepV (i := 28) rfl hF (fun w hS => Y.pick_t hF rfl hbv_5 rfl) rfl fun a hF => stepV (i := 29) rfl hF (fun w hS => Y.move hF rfl) rfl fun a hF => stepV_off (i := 30) rfl hF rfl rfl rfl rfl fun a hF => oneV (i := 31) rfl ?_ ?_
          ·skip
           refine guard_off hF rfl rfl rfl rfl fun a hF => nT ⟨(hS.weak (ms := [(2, .cells b [iv rv_3.1.Low, iv rv_3.1.High] 33)]) ⟨rfl, trivial⟩).weakD hlev_17 hle0, ?_⟩
           refine oneV (i := 32) rfl ?_ trivial
           refine guard_off hF rfl rfl rfl rfl fun a hF => nT ⟨(hS.weak (ms := [(2, .cells b [iv rv_3.1.Low, iv rv_3.1.High] 33)]) ⟨rfl, trivial⟩).weakD hlev_17 hle0, ?_⟩
           refine oneV (i := 33) rfl ?_ trivial
           refine guard_off hF rfl rfl rfl rfl fun a hF => nT ⟨(hS.weak (ms := [(2, .cells b [iv rv_3.1.Low, iv rv_3.1.High] 33)]) ⟨rfl, trivial⟩).weakD hlev_17 hle0, ?_⟩
           refine oneV (i := 34) rfl ?_ trivial
           refine guard_off hF rfl rfl rfl rfl fun a hF => nT ⟨(hS.weak (ms := [(2, .cells b [iv rv_3.1.Low, iv rv_3.1.High] 33)]) ⟨rfl, trivial⟩).weakD hlev_17 hle0, ?_⟩
           refine stepV_off (i := 35) rfl hF rfl rfl rfl rfl fun a hF => stepV (i := 36) rfl hF (fun w hS => Y.pick_t hF rfl rfl rfl) rfl fun a hF => toTailV ⟨Dv_18, hlev_17, hF.weak (AF rfl), hS.weak ⟨rfl, trivial⟩⟩
          refine oneV (i := 32) rfl ?_ trivial
          refine guard_off hF rfl rfl rfl rfl fun a hF => nT ⟨(hS.weak (ms := [(2, .cells b [iv rv_3.1.Low, iv rv_3.1.High] 33)]) ⟨rfl, trivial⟩).weakD hlev_17 hle0, ?_⟩
          refine oneV (i := 31) rfl ?_ trivial
          refine guard_off hF rfl rfl rfl rfl fun a hF => nT ⟨(hS.weak (ms := [(2, .cells b [iv rv_3.1.Low, iv rv_3.1.High] 33)]) ⟨rfl, trivial⟩).weakD hlev_17 hle0, ?_⟩
          refine oneV (i := 33) rfl ?_ trivial
          refine guard_off hF rfl rfl rfl rfl fun a hF => nT ⟨(hS.weak (ms := [(2, .cells b [iv rv_3.1.Low, iv rv_3.1.High] 33)]) ⟨rfl, trivial⟩).weakD hlev_17 hle0, ?_⟩
          refine oneV (i := 34) rfl ?_ trivial
          refine guard_off hF rfl rfl rfl rfl fun a hF => nT ⟨(hS.weak (ms := [(2, .cells b [iv rv_3.1.Low, iv rv_3.1.High] 33)]) ⟨rfl, trivial⟩).weakD hlev_17 hle0, ?_⟩
          refine stepV_off (i := 35) rfl hF rfl rfl rfl rfl fun a hF => stepV (i := 36) rfl hF (fun w hS => Y.pick_t hF rfl rfl rfl) rfl fun a hF => toTailV ⟨Dv_18, hlev_17, hF.weak (AF rfl), hS.weak ⟨rfl, trivial⟩⟩
        as_aux_lemma =>
         skip
         replace ht_5 := cond_f ht_5 hbv_5
         obtain rfl := some_inj ht_5
         rcases bcases (!rv_5.1) with hbv_6 | hbv_6
         ·as_aux_lemma =>
           skip
           replace ht_6 := cond_t ht_6 hbv_6
           obtain rfl := some_inj ht_6
           refine stepV (i := 0) rfl hF (fun w hS => Y.move hF rfl) rfl fun a hF => stepV (i := 1) rfl hF (fun w hS => Y.neq hF rfl rfl) rfl fun a hF => stepV (i := 2) rfl hF (fun w hS => Y.move hF rfl) rfl fun a hF => stepV_on (i := 3) rfl hF rfl rfl hbv (fun w hS => Y.move hF rfl) rfl fun a hF => stepV_on (i := 4) rfl hF rfl rfl hbv (fun w hS => Y.neq hF rfl rfl) rfl fun a hF => stepV (i := 5) rfl hF (fun w hS => Y.pick_f hF rfl hbv rfl) rfl fun a hF => stepV (i := 6) rfl hF (fun w hS => Y.move hF rfl) rfl fun a hF => stepV_on (i := 7) rfl hF rfl rfl hbv_1 (fun w hS => Y.move hF rfl) rfl fun a hF => stepV_on (i := 8) rfl hF rfl rfl hbv_1 (fun w hS => Y.neq hF rfl rfl) rfl fun a hF => stepV (i := 9) rfl hF (fun w hS => Y.pick_f hF rfl hbv_1 rfl) rfl fun a hF => stepV (i := 10) rfl hF (fun w hS => Y.move hF rfl) rfl fun a hF => stepV_on (i := 11) rfl hF rfl rfl hbv_2 (fun w hS => Y.move hF rfl) rfl fun a hF => stepV_on (i := 12) rfl hF rfl rfl hbv_2 (fun w hS => Y.neq hF rfl rfl) rfl fun a hF => stepV (i := 13) rfl hF (fun w hS => Y.pick_f hF rfl hbv_2 rfl) rfl fun a hF => stepV (i := 14) rfl hF (fun w hS => Y.move hF rfl) rfl fun a hF => stepV_on (i := 15) rfl hF rfl rfl hbv_3 (fun w hS => Y.move hF rfl) rfl fun a hF => oneV (i := 16) rfl ?_ trivial
           refine guard_on hF rfl rfl hbv_3 ?_
           have hr_10 : Reps C_int Dv_9 [0, 1, 2] [iv 0, iv 1, iv 2] := Reps.cons (C := C_int) (x := 0) (c := [iv 0]) (r := [iv 1, iv 2]) rfl (Reps.cons (C := C_int) (x := 1) (c := [iv 1]) (r := [iv 2]) rfl (Reps.cons (C := C_int) (x := 2) (c := [iv 2]) (r := []) rfl (Reps.nil)))
           refine O.buildSlice (E := 3) (C := C_int) (xs := [0, 1, 2]) (cs := [iv 0, iv 1, iv 2]) (us := [iv 0, iv 1, iv 2]) (parts := [(0, (.const (iv 0))), (1, (.const (iv 1))), (2, (.const (iv 2)))]) 6 hF hS rfl (by kernel_rfl) hr_10 rfl rfl rfl fun p_20 c_20 a w hF hS => nT ⟨hS.weak ⟨rfl, trivial⟩, ?_⟩
           refine oneV (i := 17) rfl ?_ trivial
           refine guard_on hF rfl rfl hbv_3 ?_
           obtain ⟨Dv_19, hlev_18, hs_20, hS⟩ := hS.freezeC (C := C_int) (i := 6) (xs := [0, 1, 2]) rfl hr_10
           replace hs_2 := hs_2.mono hlev_18
           refine O.callP (us := [.slice p_2 rv_1.1.length c_2, .slice p_20 ([0, 1, 2]).length c_20]) ca_18 hF hS (r0Alike_ok hS.stab rv_1.1 ([0, 1, 2]) hs_2 hs_20 rv_8 hx_8) rfl rfl fun a w hF hS => nT ⟨(hS.weak (ms := [(2, .cells b [iv rv_3.1.Low, iv rv_3.1.High] 33)]) ⟨rfl, trivial⟩).weakD hlev_18 hle0, ?_⟩
           refine stepV_on (i := 18) rfl hF rfl rfl hbv_3 (fun w hS => Y.not hF rfl) rfl fun a hF => stepV (i := 19) rfl hF (fun w hS => Y.pick_f hF rfl hbv_3 rfl) rfl fun a hF => stepV (i := 20) rfl hF (fun w hS => Y.move hF rfl) rfl fun a hF => stepV_on (i := 21) rfl hF rfl rfl hbv_4 (fun w hS => Y.loadNL 2 sz_33 hF rfl hS rfl rfl rfl) rfl fun a hF => oneV (i := 22) rfl ?_ trivial
           refine guard_on hF rfl rfl hbv_4 (O.callP (us := [iv 1, iv 1]) ca_43 hF hS (r0To_ok hS.stab 1 1 rv_9 hx_9) rfl rfl fun a w hF hS => nT ⟨(hS.weak (ms := [(2, .cells b [iv rv_3.1.Low, iv rv_3.1.High] 33)]) ⟨rfl, trivial⟩).weakD hlev_18 hle0, ?_⟩)
           refine stepV_on (i := 23) rfl hF rfl rfl hbv_4 (fun w hS => Y.nest (fun w => eqT_33.equal (by decide) (l := [rv_3.1.Low, rv_3.1.High]) (m := [rv_9.Low, rv_9.High]) rfl rfl) (fun w => run_eqGuard_agg _ _ _ _ _ _ _ eg_33) hF rfl rfl) rfl fun a hF => stepV (i := 24) rfl hF (fun w hS => Y.pick_f hF rfl hbv_4 rfl) rfl fun a hF => stepV (i := 25) rfl hF (fun w hS => Y.move hF rfl) rfl fun a hF => stepV_on (i := 26) rfl hF rfl rfl hbv_5 (fun w hS => Y.move hF rfl) rfl fun a hF => stepV_on (i := 27) rfl hF rfl rfl hbv_5 (fun w hS => Y.not hF rfl) rfl fun a hF => stepV (i := 28) rfl hF (fun w hS => Y.pick_f hF rfl hbv_5 rfl) rfl fun a hF => stepV (i := 29) rfl hF (fun w hS => Y.move hF rfl) rfl fun a hF => stepV_off (i := 30) rfl hF rfl rfl hbv_6 rfl fun a hF => oneV (i := 31) rfl ?_ ?_
           ·skip
            refine guard_off hF rfl rfl hbv_6 rfl fun a hF => nT ⟨(hS.weak (ms := [(2, .cells b [iv rv_3.1.Low, iv rv_3.1.High] 33)]) ⟨rfl, trivial⟩).weakD hlev_18 hle0, ?_⟩
            refine oneV (i := 32) rfl ?_ trivial
            refine guard_off hF rfl rfl hbv_6 rfl fun a hF => nT ⟨(hS.weak (ms := [(2, .cells b [iv rv_3.1.Low, iv rv_3.1.High] 33)]) ⟨rfl, trivial⟩).weakD hlev_18 hle0, ?_⟩
            refine oneV (i := 33) rfl ?_ trivial
            refine guard_off hF rfl rfl hbv_6 rfl fun a hF => nT ⟨(hS.weak (ms := [(2, .cells b [iv rv_3.1.Low, iv rv_3.1.High] 33)]) ⟨rfl, trivial⟩).weakD hlev_18 hle0, ?_⟩
            refine oneV (i := 34) rfl ?_ trivial
            refine guard_off hF rfl rfl hbv_6 rfl fun a hF => nT ⟨(hS.weak (ms := [(2, .cells b [iv rv_3.1.Low, iv rv_3.1.High] 33)]) ⟨rfl, trivial⟩).weakD hlev_18 hle0, ?_⟩
            refine stepV_off (i := 35) rfl hF rfl rfl hbv_6 rfl fun a hF => stepV (i := 36) rfl hF (fun w hS => Y.pick_t hF rfl hbv_6 rfl) rfl fun a hF => toTailV ⟨Dv_19, hlev_18, hF.weak (AF rfl), hS.weak ⟨rfl, trivial⟩⟩
           refine oneV (i := 32) rfl ?_ trivial
           refine guard_off hF rfl rfl hbv_6 rfl fun a hF => nT ⟨(hS.weak (ms := [(2, .cells b [iv rv_3.1.Low, iv rv_3.1.High] 33)]) ⟨rfl, trivial⟩).weakD hlev_18 hle0, ?_⟩
           refine oneV (i := 31) rfl ?_ trivial
           refine guard_off hF rfl rfl hbv_6 rfl fun a hF => nT ⟨(hS.weak (ms := [(2, .cells b [iv rv_3.1.Low, iv rv_3.1.High] 33)]) ⟨rfl, trivial⟩).weakD hlev_18 hle0, ?_⟩
           refine oneV (i := 33) rfl ?_ trivial
           refine guard_off hF rfl rfl hbv_6 rfl fun a hF => nT ⟨(hS.weak (ms := [(2, .cells b [iv rv_3.1.Low, iv rv_3.1.High] 33)]) ⟨rfl, trivial⟩).weakD hlev_18 hle0, ?_⟩
           refine oneV (i := 34) rfl ?_ trivial
           refine guard_off hF rfl rfl hbv_6 rfl fun a hF => nT ⟨(hS.weak (ms := [(2, .cells b [iv rv_3.1.Low, iv rv_3.1.High] 33)]) ⟨rfl, trivial⟩).weakD hlev_18 hle0, ?_⟩
           refine stepV_off (i := 35) rfl hF rfl rfl hbv_6 rfl fun a hF => stepV (i := 36) rfl hF (fun w hS => Y.pick_t hF rfl hbv_6 rfl) rfl fun a hF => toTailV ⟨Dv_19, hlev_18, hF.weak (AF rfl), hS.weak ⟨rfl, trivial⟩⟩
         as_aux_lemma =>
          skip
          replace ht_6 := cond_f ht_6 hbv_6
          obtain ⟨rv_10, hx_10, ht_6⟩ := bind_some ht_6
          obtain rfl := some_inj ht_6
          refine stepV (i := 0) rfl hF (fun w hS => Y.move hF rfl) rfl fun a hF => stepV (i := 1) rfl hF (fun w hS => Y.neq hF rfl rfl) rfl fun a hF => stepV (i := 2) rfl hF (fun w hS => Y.move hF rfl) rfl fun a hF => stepV_on (i := 3) rfl hF rfl rfl hbv (fun w hS => Y.move hF rfl) rfl fun a hF => stepV_on (i := 4) rfl hF rfl rfl hbv (fun w hS => Y.neq hF rfl rfl) rfl fun a hF => stepV (i := 5) rfl hF (fun w hS => Y.pick_f hF rfl hbv rfl) rfl fun a hF => stepV (i := 6) rfl hF (fun w hS => Y.move hF rfl) rfl fun a hF => stepV_on (i := 7) rfl hF rfl rfl hbv_1 (fun w hS => Y.move hF rfl) rfl fun a hF => stepV_on (i := 8) rfl hF rfl rfl hbv_1 (fun w hS => Y.neq hF rfl rfl) rfl fun a hF => stepV (i := 9) rfl hF (fun w hS => Y.pick_f hF rfl hbv_1 rfl) rfl fun a hF => stepV (i := 10) rfl hF (fun w hS => Y.move hF rfl) rfl fun a hF => stepV_on (i := 11) rfl hF rfl rfl hbv_2 (fun w hS => Y.move hF rfl) rfl fun a hF => stepV_on (i := 12) rfl hF rfl rfl hbv_2 (fun w hS => Y.neq hF rfl rfl) rfl fun a hF => stepV (i := 13) rfl hF (fun w hS => Y.pick_f hF rfl hbv_2 rfl) rfl fun a hF => stepV (i := 14) rfl hF (fun w hS => Y.move hF rfl) rfl fun a hF => stepV_on (i := 15) rfl hF rfl rfl hbv_3 (fun w hS => Y.move hF rfl) rfl fun a hF => oneV (i := 16) rfl ?_ trivial
          refine guard_on hF rfl rfl hbv_3 ?_
          have hr_11 : Reps C_int Dv_9 [0, 1, 2] [iv 0, iv 1, iv 2] := Reps.cons (C := C_int) (x := 0) (c := [iv 0]) (r := [iv 1, iv 2]) rfl (Reps.cons (C := C_int) (x := 1) (c := [iv 1]) (r := [iv 2]) rfl (Reps.cons (C := C_int) (x := 2) (c := [iv 2]) (r := []) rfl (Reps.nil)))
          refine O.buildSlice (E := 3) (C := C_int) (xs := [0, 1, 2]) (cs := [iv 0, iv 1, iv 2]) (us := [iv 0, iv 1, iv 2]) (parts := [(0, (.const (iv 0))), (1, (.const (iv 1))), (2, (.const (iv 2)))]) 6 hF hS rfl (by kernel_rfl) hr_11 rfl rfl rfl fun p_21 c_21 a w hF hS => nT ⟨hS.weak ⟨rfl, trivial⟩, ?_⟩
          refine oneV (i := 17) rfl ?_ trivial
          refine guard_on hF rfl rfl hbv_3 ?_
          obtain ⟨Dv_20, hlev_19, hs_21, hS⟩ := hS.freezeC (C := C_int) (i := 6) (xs := [0, 1, 2]) rfl hr_11
          replace hs_2 := hs_2.mono hlev_19
          replace hs_13 := hs_13.mono hlev_19
          refine O.callP (us := [.slice p_2 rv_1.1.length c_2, .slice p_21 ([0, 1, 2]).length c_21]) ca_18 hF hS (r0Alike_ok hS.stab rv_1.1 ([0, 1, 2]) hs_2 hs_21 rv_8 hx_8) rfl rfl fun a w hF hS => nT ⟨(hS.weak (ms := [(2, .cells b [iv rv_3.1.Low, iv rv_3.1.High] 33)]) ⟨rfl, trivial⟩).weakD hlev_19 hle0, ?_⟩
          refine stepV_on (i := 18) rfl hF rfl rfl hbv_3 (fun w hS => Y.not hF rfl) rfl fun a hF => stepV (i := 19) rfl hF (fun w hS => Y.pick_f hF rfl hbv_3 rfl) rfl fun a hF => stepV (i := 20) rfl hF (fun w hS => Y.move hF rfl) rfl fun a hF => stepV_on (i := 21) rfl hF rfl rfl hbv_4 (fun w hS => Y.loadNL 2 sz_33 hF rfl hS rfl rfl rfl) rfl fun a hF => oneV (i := 22) rfl ?_ trivial
          refine guard_on hF rfl rfl hbv_4 (O.callP (us := [iv 1, iv 1]) ca_43 hF hS (r0To_ok hS.stab 1 1 rv_9 hx_9) rfl rfl fun a w hF hS => nT ⟨(hS.weak (ms := [(2, .cells b [iv rv_3.1.Low, iv rv_3.1.High] 33)]) ⟨rfl, trivial⟩).weakD hlev_19 hle0, ?_⟩)
          refine stepV_on (i := 23) rfl hF rfl rfl hbv_4 (fun w hS => Y.nest (fun w => eqT_33.equal (by decide) (l := [rv_3.1.Low, rv_3.1.High]) (m := [rv_9.Low, rv_9.High]) rfl rfl) (fun w => run_eqGuard_agg _ _ _ _ _ _ _ eg_33) hF rfl rfl) rfl fun a hF => stepV (i := 24) rfl hF (fun w hS => Y.pick_f hF rfl hbv_4 rfl) rfl fun a hF => stepV (i := 25) rfl hF (fun w hS => Y.move hF rfl) rfl fun a hF => stepV_on (i := 26) rfl hF rfl rfl hbv_5 (fun w hS => Y.move hF rfl) rfl fun a hF => stepV_on (i := 27) rfl hF rfl rfl hbv_5 (fun w hS => Y.not hF rfl) rfl fun a hF => stepV (i := 28) rfl hF (fun w hS => Y.pick_f hF rfl hbv_5 rfl) rfl fun a hF => stepV (i := 29) rfl hF (fun w hS => Y.move hF rfl) rfl fun a hF => stepV_on (i := 30) rfl hF rfl rfl hbv_6 (fun w hS => Y.move hF rfl) rfl fun a hF => oneV (i := 31) rfl ?_ ?_
          ·as_aux_lemma =>
            skip
            refine guard_on hF rfl rfl hbv_6 ?_
            have hr_12 : Reps C_int Dv_20 [3] [iv 3] := Reps.cons (C := C_int) (x := 3) (c := [iv 3]) (r := []) rfl (Reps.nil)
            refine O.buildSlice (E := 3) (C := C_int) (xs := [3]) (cs := [iv 3]) (us := [iv 3]) (parts := [(0, (.const (iv 3)))]) 7 hF hS rfl (by kernel_rfl) hr_12 rfl rfl rfl fun p_22 c_22 a w hF hS => nT ⟨(hS.weak (ms := [(2, .cells b [iv rv_3.1.Low, iv rv_3.1.High] 33)]) ⟨rfl, trivial⟩).weakD hlev_19 hle0, ?_⟩
            refine oneV (i := 32) rfl ?_ trivial
            refine guard_on hF rfl rfl hbv_6 ?_
            have hr_13 : Reps C_int Dv_20 ([] : List Int) [] := Reps.nil
            refine O.buildSlice (E := 3) (C := C_int) (xs := ([] : List Int)) (cs := []) (us := []) (parts := []) 8 hF hS rfl (by kernel_rfl) hr_13 rfl rfl rfl fun p_23 c_23 a w hF hS => nT ⟨(hS.weak (ms := [(2, .cells b [iv rv_3.1.Low, iv rv_3.1.High] 33)]) ⟨rfl, trivial⟩).weakD hlev_19 hle0, ?_⟩
            refine oneV (i := 33) rfl ?_ trivial
            refine guard_on hF rfl rfl hbv_6 ?_
            obtain ⟨Dv_21, hlev_20, hs_22, hS⟩ := hS.freezeC (C := C_int) (i := 7) (xs := [3]) rfl hr_12
            replace hs_13 := hs_13.mono hlev_20
            replace hr_13 := hr_13.mono hlev_20
            obtain ⟨Dv_22, hlev_21, hs_23, hS⟩ := hS.freezeC (C := C_int) (i := 8) (xs := ([] : List Int)) rfl hr_13
            replace hs_13 := hs_13.mono hlev_21
            replace hs_22 := hs_22.mono hlev_21
            have hr_14 : Reps (C_sl C_int) Dv_22 [[3], ([] : List Int)] [.slice p_22 ([3]).length c_22, .slice p_23 ([] : List Int).length c_23] := Reps.cons (C := (C_sl C_int)) (x := [3]) (c := [.slice p_22 ([3]).length c_22]) (r := [.slice p_23 ([] : List Int).length c_23]) (⟨_, _, rfl, hs_22⟩) (Reps.cons (C := (C_sl C_int)) (x := ([] : List Int)) (c := [.slice p_23 ([] : List Int).length c_23]) (r := []) (⟨_, _, rfl, hs_23⟩) (Reps.nil))
            refine O.buildSlice (E := 26) (C := (C_sl C_int)) (xs := [[3], ([] : List Int)]) (cs := [.slice p_22 ([3]).length c_22, .slice p_23 ([] : List Int).length c_23]) (us := [.slice p_22 ([3]).length c_22, .slice p_23 ([] : List Int).length c_23]) (parts := [(0, (.tmp 68)), (1, (.tmp 69))]) 9 hF hS rfl (by kernel_rfl) hr_14 rfl rfl rfl fun p_24 c_24 a w hF hS => nT ⟨(hS.weak (ms := [(2, .cells b [iv rv_3.1.Low, iv rv_3.1.High] 33)]) ⟨rfl, trivial⟩).weakD (hlev_19.trans (hlev_20.trans hlev_21)) hle0, ?_⟩
            refine oneV (i := 34) rfl ?_ trivial
            refine guard_on hF rfl rfl hbv_6 ?_
            obtain ⟨Dv_23, hlev_22, hs_24, hS⟩ := hS.freezeC (C := (C_sl C_int)) (i := 9) (xs := [[3], ([] : List Int)]) rfl hr_14
            replace hs_13 := hs_13.mono hlev_22
            refine O.callP (us := [.slice p_13 rv_7.1.length c_13, .slice p_24 ([[3], ([] : List Int)]).length c_24]) ca_63 hF hS (r0AlikeRows_ok hS.stab rv_7.1 ([[3], ([] : List Int)]) hs_13 hs_24 rv_10 hx_10) rfl rfl fun a w hF hS => nT ⟨(hS.weak (ms := [(2, .cells b [iv rv_3.1.Low, iv rv_3.1.High] 33)]) ⟨rfl, trivial⟩).weakD (hlev_19.trans (hlev_20.trans (hlev_21.trans hlev_22))) hle0, ?_⟩
            refine stepV_on (i := 35) rfl hF rfl rfl hbv_6 (fun w hS => Y.not hF rfl) rfl fun a hF => stepV (i := 36) rfl hF (fun w hS => Y.pick_f hF rfl hbv_6 rfl) rfl fun a hF => toTailV ⟨Dv_23, hlev_19.trans (hlev_20.trans (hlev_21.trans hlev_22)), hF.weak (AF rfl), hS.weak ⟨rfl, trivial⟩⟩
          refine oneV (i := 32) rfl ?_ trivial
          refine guard_on hF rfl rfl hbv_6 ?_
          have hr_15 : Reps C_int Dv_20 ([] : List Int) [] := Reps.nil
          refine O.buildSlice (E := 3) (C := C_int) (xs := ([] : List Int)) (cs := []) (us := []) (parts := []) 8 hF hS rfl (by kernel_rfl) hr_15 rfl rfl rfl fun p_25 c_25 a w hF hS => nT ⟨(hS.weak (ms := [(2, .cells b [iv rv_3.1.Low, iv rv_3.1.High] 33)]) ⟨rfl, trivial⟩).weakD hlev_19 hle0, ?_⟩
          refine oneV (i := 31) rfl ?_ trivial
          refine guard_on hF rfl rfl hbv_6 ?_
          have hr_16 : Reps C_int Dv_20 [3] [iv 3] := Reps.cons (C := C_int) (x := 3) (c := [iv 3]) (r := []) rfl (Reps.nil)
          refine O.buildSlice (E := 3) (C := C_int) (xs := [3]) (cs := [iv 3]) (us := [iv 3]) (parts := [(0, (.const (iv 3)))]) 7 hF hS rfl (by kernel_rfl) hr_16 rfl rfl rfl fun p_26 c_26 a w hF hS => nT ⟨(hS.weak (ms := [(2, .cells b [iv rv_3.1.Low, iv rv_3.1.High] 33)]) ⟨rfl, trivial⟩).weakD hlev_19 hle0, ?_⟩
          refine oneV (i := 33) rfl ?_ trivial
          refine guard_on hF rfl rfl hbv_6 ?_
          obtain ⟨Dv_24, hlev_23, hs_25, hS⟩ := hS.freezeC (C := C_int) (i := 7) (xs := [3]) rfl hr_16
          replace hs_13 := hs_13.mono hlev_23
          replace hr_15 := hr_15.mono hlev_23
          obtain ⟨Dv_25, hlev_24, hs_26, hS⟩ := hS.freezeC (C := C_int) (i := 8) (xs := ([] : List Int)) rfl hr_15
          replace hs_13 := hs_13.mono hlev_24
          replace hs_25 := hs_25.mono hlev_24
          have hr_17 : Reps (C_sl C_int) Dv_25 [[3], ([] : List Int)] [.slice p_26 ([3]).length c_26, .slice p_25 ([] : List Int).length c_25] := Reps.cons (C := (C_sl C_int)) (x := [3]) (c := [.slice p_26 ([3]).length c_26]) (r := [.slice p_25 ([] : List Int).length c_25]) (⟨_, _, rfl, hs_25⟩) (Reps.cons (C := (C_sl C_int)) (x := ([] : List Int)) (c := [.slice p_25 ([] : List Int).length c_25]) (r := []) (⟨_, _, rfl, hs_26⟩) (Reps.nil))
          refine O.buildSlice (E := 26) (C := (C_sl C_int)) (xs := [[3], ([] : List Int)]) (cs := [.slice p_26 ([3]).length c_26, .slice p_25 ([] : List Int).length c_25]) (us := [.slice p_26 ([3]).length c_26, .slice p_25 ([] : List Int).length c_25]) (parts := [(0, (.tmp 68)), (1, (.tmp 69))]) 9 hF hS rfl (by kernel_rfl) hr_17 rfl rfl rfl fun p_27 c_27 a w hF hS => nT ⟨(hS.weak (ms := [(2, .cells b [iv rv_3.1.Low, iv rv_3.1.High] 33)]) ⟨rfl, trivial⟩).weakD (hlev_19.trans (hlev_23.trans hlev_24)) hle0, ?_⟩
          refine oneV (i := 34) rfl ?_ trivial
          refine guard_on hF rfl rfl hbv_6 ?_
          obtain ⟨Dv_26, hlev_25, hs_27, hS⟩ := hS.freezeC (C := (C_sl C_int)) (i := 9) (xs := [[3], ([] : List Int)]) rfl hr_17
          replace hs_13 := hs_13.mono hlev_25
          refine O.callP (us := [.slice p_13 rv_7.1.length c_13, .slice p_27 ([[3], ([] : List Int)]).length c_27]) ca_63 hF hS (r0AlikeRows_ok hS.stab rv_7.1 ([[3], ([] : List Int)]) hs_13 hs_27 rv_10 hx_10) rfl rfl fun a w hF hS => nT ⟨(hS.weak (ms := [(2, .cells b [iv rv_3.1.Low, iv rv_3.1.High] 33)]) ⟨rfl, trivial⟩).weakD (hlev_19.trans (hlev_23.trans (hlev_24.trans hlev_25))) hle0, ?_⟩
          refine stepV_on (i := 35) rfl hF rfl rfl hbv_6 (fun w hS => Y.not hF rfl) rfl fun a hF => stepV (i := 36) rfl hF (fun w hS => Y.pick_f hF rfl hbv_6 rfl) rfl fun a hF => toTailV ⟨Dv_26, hlev_19.trans (hlev_23.trans (hlev_24.trans hlev_25)), hF.weak (AF rfl), hS.weak ⟨rfl, trivial⟩⟩
 rintro a w ⟨Dv_16, hle, hF, hS⟩
 have hlev_26 := hle
 replace hG := hG.mono hlev_26
 refine nT (cond_b hF rfl (fun hbv_7 => ?_) (fun hbv_7 => ?_))
 ·replace h := ncond_t h hbv_7
  refine seq (region (step hF (Y.assign hF rfl) rfl fun a hF => nT (ret_ (then_r (leavePN _ (nret h) Tryd.results23 hF hS (.cons (.tmp rfl) .nil) .nil rfl)))))
 as_aux_lemma =>
  replace h := ncond_f h hbv_7
  refine skip_ (then_n (seq (region ?_)))
  have hr_18 : Reps C_int Dv_16 [0, 1, 0] [iv 0, iv 1, iv 0] := Reps.cons (C := C_int) (x := 0) (c := [iv 0]) (r := [iv 1, iv 0]) rfl (Reps.cons (C := C_int) (x := 1) (c := [iv 1]) (r := [iv 0]) rfl (Reps.cons (C := C_int) (x := 0) (c := [iv 0]) (r := []) rfl (Reps.nil)))
  refine O.buildSlice (E := 3) (C := C_int) (xs := [0, 1, 0]) (cs := [iv 0, iv 1, iv 0]) (us := [iv 0, iv 1, iv 0]) (parts := [(0, (.const (iv 0))), (1, (.const (iv 1))), (2, (.const (iv 0)))]) 10 hF hS rfl (by kernel_rfl) hr_18 rfl rfl rfl fun p_28 c_28 a w hF hS => ?_
  obtain ⟨Dv_27, hlev_27, hs_28, hS⟩ := hS.freezeC (C := C_int) (i := 10) (xs := [0, 1, 0]) rfl hr_18
  replace hG := hG.mono hlev_27
  obtain ⟨rv_11, hx_11, h⟩ := ndet h
  refine O.callS (us := [.slice p_28 ([0, 1, 0]).length c_28]) ca_55 hF hS (w7line_ok hS.stab ([0, 1, 0]) hs_28 rv_11 hx_11) rfl rfl fun v_6 Dv_28 a w hR_6 hlev_28 hF hS => ?_
  replace hG := hG.mono hlev_28
  obtain ⟨p_29, c_29, p_30, c_30, rfl, hs_29, hs_30⟩ := hR_6
  obtain ⟨KQ_3, hx_12, hk_3⟩ := nbnd_ex h
  refine O.callSN (us := [.agg #[iv rv_11.Ring, .slice p_29 rv_11.Starts.length c_29, .slice p_30 rv_11.Events.length c_30]]) ca_28 hF hS (slave_Wrong_ok hS.stab rv_11 hs_29 hs_30 hG KQ_3 hx_12) rfl rfl fun rv_12 h v_7 Dv_29 a w hR_7 hlev_29 hF hS => ?_
  replace h := hk_3 _ h
  replace hG := hG.mono hlev_29
  obtain ⟨p_31, c_31, rfl, hs_31⟩ := hR_7
  refine step hF (Y.move hF rfl) rfl fun a hF => step hF (Y.extract hF rfl rfl) rfl fun a hF => step hF (Y.extract hF rfl rfl) rfl fun a hF => step hF (Y.assign hF rfl) rfl fun a hF => step hF (Y.assign hF rfl) rfl fun a hF => nT (seq (region ?_))
  obtain ⟨rv_13, hx_13, h⟩ := ndet h
  refine O.callS (us := [.slice none 0 0]) ca_55 hF hS (w7line_ok hS.stab ([] : List Int) SRc.nil rv_13 hx_13) rfl rfl fun v_8 Dv_30 a w hR_8 hlev_30 hF hS => ?_
  replace hG := hG.mono hlev_30
  replace hs_31 := hs_31.mono hlev_30
  obtain ⟨p_32, c_32, p_33, c_33, rfl, hs_32, hs_33⟩ := hR_8
  obtain ⟨KQ_4, hx_14, hk_4⟩ := nbnd_ex h
  refine O.callPN (us := [.agg #[iv rv_13.Ring, .slice p_32 rv_13.Starts.length c_32, .slice p_33 rv_13.Events.length c_33], iv 5]) ca_34 hF hS (slave_Set_ok hS.stab rv_13 5 hs_32 hs_33 hG KQ_4 hx_14) rfl rfl fun rv_14 h a w hF hS => ?_
  replace h := hk_4 _ h
  refine step hF (Y.move hF rfl) rfl fun a hF => step hF (Y.extract hF rfl rfl) rfl fun a hF => step hF (Y.extract hF rfl rfl) rfl fun a hF => O.alloc 11 zc_49 hF hS rfl fun b_1 a w hF hS => O.store (us := [iv rv_14.1.Pre, iv rv_14.1.Home, iv rv_14.1.First, iv rv_14.1.Send]) 11 sz_49 hF rfl rfl rfl rfl hS rfl rfl fun a w hF hS => step hF (Y.assign hF rfl) rfl fun a hF => nT (seq (region ?_))
  obtain ⟨rv_15, hx_15, h⟩ := ndet h
  refine O.callS (us := [.slice none 0 0]) ca_55 hF hS (w7line_ok hS.stab ([] : List Int) SRc.nil rv_15 hx_15) rfl rfl fun v_9 Dv_31 a w hR_9 hlev_31 hF hS => ?_
  replace hG := hG.mono hlev_31
  replace hs_31 := hs_31.mono hlev_31
  obtain ⟨p_34, c_34, p_35, c_35, rfl, hs_34, hs_35⟩ := hR_9
  refine step hF (Y.build (parts := [(0, (.const (iv 1))), (1, (.const (iv 10))), (3, (.const (iv 5)))]) (cs := #[iv 1, iv 10, iv 0, iv 5]) hF rfl (by kernel_rfl)) rfl fun a hF => ?_
  obtain ⟨KQ_5, hx_16, hk_5⟩ := nbnd_ex h
  refine O.callPN (us := [.agg #[iv rv_15.Ring, .slice p_34 rv_15.Starts.length c_34, .slice p_35 rv_15.Events.length c_35], iv 5, .agg #[iv 1, iv 10, iv 0, iv 5]]) ca_32 hF hS (slave_Sets_ok hS.stab rv_15 5 (SlavePlan.mk 1 10 0 5) hs_34 hs_35 hG KQ_5 hx_16) rfl rfl fun rv_16 h a w hF hS => ?_
  replace h := hk_5 _ h
  refine step hF (Y.move hF rfl) rfl fun a hF => step hF (Y.extract hF rfl rfl) rfl fun a hF => step hF (Y.extract hF rfl rfl) rfl fun a hF => step hF (Y.assign hF rfl) rfl fun a hF => step hF (Y.assign hF rfl) rfl fun a hF => nT (seq (region ?_))
  obtain ⟨rv_17, hx_17, h⟩ := ndet h
  refine O.callS (us := [.slice none 0 0]) ca_55 hF hS (w7line_ok hS.stab ([] : List Int) SRc.nil rv_17 hx_17) rfl rfl fun v_10 Dv_32 a w hR_10 hlev_32 hF hS => ?_
  replace hG := hG.mono hlev_32
  replace hs_31 := hs_31.mono hlev_32
  obtain ⟨p_36, c_36, p_37, c_37, rfl, hs_36, hs_37⟩ := hR_10
  obtain ⟨KQ_6, hx_18, hk_6⟩ := nbnd_ex h
  refine O.callPN (us := [.agg #[iv rv_17.Ring, .slice p_36 rv_17.Starts.length c_36, .slice p_37 rv_17.Events.length c_37], iv 2]) ca_30 hF hS (slave_Homes_ok hS.stab rv_17 2 hs_36 hs_37 hG KQ_6 hx_18) rfl rfl fun rv_18 h a w hF hS => ?_
  replace h := hk_6 _ h
  refine step hF (Y.move hF rfl) rfl fun a hF => step hF (Y.extract hF rfl rfl) rfl fun a hF => step hF (Y.extract hF rfl rfl) rfl fun a hF => step hF (Y.assign hF rfl) rfl fun a hF => step hF (Y.assign hF rfl) rfl fun a hF => nT (seq (region (step hF (Y.move hF rfl) rfl fun a hF => step hF (Y.eql hF rfl rfl) rfl fun a hF => step hF (Y.move hF rfl) rfl fun a hF => join (N := 127) (rs := []) (w0 := w0) (D0 := D0) 3 (us := [(0, .bool false), (6, iv rv_16.2), (8, iv rv_18.2), (9, .slice p_31 rv_12.1.length c_31), (10, .pointer (some ⟨b_1, 0, none⟩)), (11, .bool rv_16.1), (12, iv rv_18.1), (101, .bool ((rv_12.2 == 0) && (rv_14.2 == 0)))]) (ms := [(2, .cells b [iv rv_3.1.Low, iv rv_3.1.High] 33), (11, .cells b_1 [iv rv_14.1.Pre, iv rv_14.1.Home, iv rv_14.1.First, iv rv_14.1.Send] 49)]) (D' := Dv_32) ?_ ?_)))
  ·rcases bcases (rv_12.2 == 0) with hbv_8 | hbv_8
   ·skip
    refine guard_on hF rfl rfl hbv_8 (step hF (Y.move hF rfl) rfl fun a hF => guard_on hF rfl rfl hbv_8 (step hF (Y.eql hF rfl rfl) rfl fun a hF => step hF (Y.pick_t hF rfl hbv_8 rfl) rfl fun a hF => nT ⟨hF.weak ⟨rfl, rfl, rfl, rfl, rfl, rfl, rfl, (by rw [hbv_8]; rfl), trivial⟩, hS.weak ⟨rfl, rfl, trivial⟩⟩))
   refine guard_off hF rfl rfl hbv_8 rfl fun a hF => guard_off hF rfl rfl hbv_8 rfl fun a hF => step hF (Y.pick_f hF rfl hbv_8 rfl) rfl fun a hF => nT ⟨hF.weak ⟨rfl, rfl, rfl, rfl, rfl, rfl, rfl, (by rw [hbv_8]; rfl), trivial⟩, hS.weak ⟨rfl, rfl, trivial⟩⟩
  intro a w hF hS
  refine step hF (Y.move hF rfl) rfl fun a hF => join (N := 127) (rs := []) (w0 := w0) (D0 := D0) 3 (us := [(0, .bool false), (8, iv rv_18.2), (9, .slice p_31 rv_12.1.length c_31), (10, .pointer (some ⟨b_1, 0, none⟩)), (11, .bool rv_16.1), (12, iv rv_18.1), (105, .bool (((rv_12.2 == 0) && (rv_14.2 == 0)) && (rv_16.2 == 0)))]) (ms := [(2, .cells b [iv rv_3.1.Low, iv rv_3.1.High] 33), (11, .cells b_1 [iv rv_14.1.Pre, iv rv_14.1.Home, iv rv_14.1.First, iv rv_14.1.Send] 49)]) (D' := Dv_32) ?_ ?_
  ·rcases bcases ((rv_12.2 == 0) && (rv_14.2 == 0)) with hbv_9 | hbv_9
   ·skip
    refine guard_on hF rfl rfl hbv_9 (step hF (Y.move hF rfl) rfl fun a hF => guard_on hF rfl rfl hbv_9 (step hF (Y.eql hF rfl rfl) rfl fun a hF => step hF (Y.pick_t hF rfl hbv_9 rfl) rfl fun a hF => nT ⟨hF.weak ⟨rfl, rfl, rfl, rfl, rfl, rfl, (by rw [hbv_9]; rfl), trivial⟩, hS.weak ⟨rfl, rfl, trivial⟩⟩))
   refine guard_off hF rfl rfl hbv_9 rfl fun a hF => guard_off hF rfl rfl hbv_9 rfl fun a hF => step hF (Y.pick_f hF rfl hbv_9 rfl) rfl fun a hF => nT ⟨hF.weak ⟨rfl, rfl, rfl, rfl, rfl, rfl, (by rw [hbv_9]; rfl), trivial⟩, hS.weak ⟨rfl, rfl, trivial⟩⟩
  intro a w hF hS
  refine step hF (Y.move hF rfl) rfl fun a hF => join (N := 127) (rs := []) (w0 := w0) (D0 := D0) 3 (us := [(0, .bool false), (9, .slice p_31 rv_12.1.length c_31), (10, .pointer (some ⟨b_1, 0, none⟩)), (11, .bool rv_16.1), (12, iv rv_18.1), (109, .bool ((((rv_12.2 == 0) && (rv_14.2 == 0)) && (rv_16.2 == 0)) && (rv_18.2 == 0)))]) (ms := [(2, .cells b [iv rv_3.1.Low, iv rv_3.1.High] 33), (11, .cells b_1 [iv rv_14.1.Pre, iv rv_14.1.Home, iv rv_14.1.First, iv rv_14.1.Send] 49)]) (D' := Dv_32) ?_ ?_
  ·rcases bcases (((rv_12.2 == 0) && (rv_14.2 == 0)) && (rv_16.2 == 0)) with hbv_10 | hbv_10
   ·skip
    refine guard_on hF rfl rfl hbv_10 (step hF (Y.move hF rfl) rfl fun a hF => guard_on hF rfl rfl hbv_10 (step hF (Y.eql hF rfl rfl) rfl fun a hF => step hF (Y.pick_t hF rfl hbv_10 rfl) rfl fun a hF => nT ⟨hF.weak ⟨rfl, rfl, rfl, rfl, rfl, (by rw [hbv_10]; rfl), trivial⟩, hS.weak ⟨rfl, rfl, trivial⟩⟩))
   refine guard_off hF rfl rfl hbv_10 rfl fun a hF => guard_off hF rfl rfl hbv_10 rfl fun a hF => step hF (Y.pick_f hF rfl hbv_10 rfl) rfl fun a hF => nT ⟨hF.weak ⟨rfl, rfl, rfl, rfl, rfl, (by rw [hbv_10]; rfl), trivial⟩, hS.weak ⟨rfl, rfl, trivial⟩⟩
  intro a w hF hS
  refine step hF (Y.move hF rfl) rfl fun a hF => ?_
  obtain ⟨t_7, ht_7, h⟩ := ndet h
  refine list_cut 4 (fun a w => ∃ D, Dv_32.le D ∧ Frm 127 [] [(0, .bool false), (10, .pointer (some ⟨b_1, 0, none⟩)), (11, .bool rv_16.1), (12, iv rv_18.1), (114, .bool t_7)] a ∧ St w0 D0 D [(2, .cells b [iv rv_3.1.Low, iv rv_3.1.High] 33), (11, .cells b_1 [iv rv_14.1.Pre, iv rv_14.1.Home, iv rv_14.1.First, iv rv_14.1.Send] 49)] w) ?_ ?_
  ·rcases bcases ((((rv_12.2 == 0) && (rv_14.2 == 0)) && (rv_16.2 == 0)) && (rv_18.2 == 0)) with hbv_11 | hbv_11
   ·skip
    replace h := cond_t ht_7 hbv_11
    refine guard_on hF rfl rfl hbv_11 (step hF (Y.move hF rfl) rfl fun a hF => guard_on hF rfl rfl hbv_11 ?_)
    have hr_19 : Reps C_int Dv_32 [2] [iv 2] := Reps.cons (C := C_int) (x := 2) (c := [iv 2]) (r := []) rfl (Reps.nil)
    refine O.buildSlice (E := 3) (C := C_int) (xs := [2]) (cs := [iv 2]) (us := [iv 2]) (parts := [(0, (.const (iv 2)))]) 12 hF hS rfl (by kernel_rfl) hr_19 rfl rfl rfl fun p_38 c_38 a w hF hS => guard_on hF rfl rfl hbv_11 ?_
    obtain ⟨Dv_33, hlev_33, hs_38, hS⟩ := hS.freezeC (C := C_int) (i := 12) (xs := [2]) rfl hr_19
    replace hs_31 := hs_31.mono hlev_33
    obtain ⟨rv_19, hx_19, h⟩ := bind_some h
    refine O.callP (us := [.slice p_31 rv_12.1.length c_31, .slice p_38 ([2]).length c_38]) ca_18 hF hS (r0Alike_ok hS.stab rv_12.1 ([2]) hs_31 hs_38 rv_19 hx_19) rfl rfl fun a w hF hS => step hF (Y.pick_t hF rfl hbv_11 rfl) rfl fun a hF => ?_
    obtain rfl := some_inj h
    exact nT ⟨Dv_33, hlev_33, hF.weak (AF rfl), hS.weak ⟨rfl, rfl, trivial⟩⟩
   replace h := cond_f ht_7 hbv_11
   refine guard_off hF rfl rfl hbv_11 rfl fun a hF => guard_off hF rfl rfl hbv_11 rfl fun a hF => guard_off hF rfl rfl hbv_11 rfl fun a hF => step hF (Y.pick_f hF rfl hbv_11 rfl) rfl fun a hF => ?_
   obtain rfl := some_inj h
   exact nT ⟨Dv_32, Stab.le.refl _, hF.weak (AF rfl), hS.weak ⟨rfl, rfl, trivial⟩⟩
  rintro a w ⟨Dv_34, hlev_34, hF, hS⟩
  refine step hF (Y.move hF rfl) rfl fun a hF => join (N := 127) (rs := []) (w0 := w0) (D0 := D0) 4 (us := [(0, .bool false), (11, .bool rv_16.1), (12, iv rv_18.1), (119, .bool (t_7 && ([rv_14.1.Pre, rv_14.1.Home, rv_14.1.First, rv_14.1.Send] == [(-1), 10, 1, 6])))]) (ms := [(2, .cells b [iv rv_3.1.Low, iv rv_3.1.High] 33), (11, .cells b_1 [iv rv_14.1.Pre, iv rv_14.1.Home, iv rv_14.1.First, iv rv_14.1.Send] 49)]) (D' := Dv_34) ?_ ?_
  ·rcases bcases t_7 with hbv_12 | hbv_12
   ·skip
    refine guard_on hF rfl rfl hbv_12 (step hF (Y.loadNL 11 sz_49 hF rfl hS rfl rfl rfl) rfl fun a hF => guard_on hF rfl rfl hbv_12 (step hF (Y.build (parts := [(0, (.const (iv (-1)))), (1, (.const (iv 10))), (2, (.const (iv 1))), (3, (.const (iv 6)))]) (cs := #[iv (-1), iv 10, iv 1, iv 6]) hF rfl (by kernel_rfl)) rfl fun a hF => guard_on hF rfl rfl hbv_12 (step hF (Y.eqst (fun w => eqT_49.equal (by decide) (l := [rv_14.1.Pre, rv_14.1.Home, rv_14.1.First, rv_14.1.Send]) (m := [(-1), 10, 1, 6]) rfl rfl) (fun w => run_eqGuard_agg _ _ _ _ _ _ _ eg_49) hF rfl rfl) rfl fun a hF => step hF (Y.pick_t hF rfl hbv_12 rfl) rfl fun a hF => nT ⟨hF.weak ⟨rfl, rfl, rfl, (by rw [hbv_12]; rfl), trivial⟩, hS.weak ⟨rfl, rfl, trivial⟩⟩)))
   refine guard_off hF rfl rfl hbv_12 rfl fun a hF => guard_off hF rfl rfl hbv_12 rfl fun a hF => guard_off hF rfl rfl hbv_12 rfl fun a hF => step hF (Y.pick_f hF rfl hbv_12 rfl) rfl fun a hF => nT ⟨hF.weak ⟨rfl, rfl, rfl, (by rw [hbv_12]; rfl), trivial⟩, hS.weak ⟨rfl, rfl, trivial⟩⟩
  intro a w hF hS
  refine step hF (Y.move hF rfl) rfl fun a hF => join (N := 127) (rs := []) (w0 := w0) (D0 := D0) 2 (us := [(0, .bool false), (12, iv rv_18.1), (122, .bool ((t_7 && ([rv_14.1.Pre, rv_14.1.Home, rv_14.1.First, rv_14.1.Send] == [(-1), 10, 1, 6])) && rv_16.1))]) (ms := [(2, .cells b [iv rv_3.1.Low, iv rv_3.1.High] 33), (11, .cells b_1 [iv rv_14.1.Pre, iv rv_14.1.Home, iv rv_14.1.First, iv rv_14.1.Send] 49)]) (D' := Dv_34) ?_ ?_
  ·rcases bcases (t_7 && ([rv_14.1.Pre, rv_14.1.Home, rv_14.1.First, rv_14.1.Send] == [(-1), 10, 1, 6])) with hbv_13 | hbv_13
   ·skip
    refine guard_on hF rfl rfl hbv_13 (step hF (Y.move hF rfl) rfl fun a hF => step hF (Y.pick_t hF rfl hbv_13 rfl) rfl fun a hF => nT ⟨hF.weak ⟨rfl, rfl, (by rw [hbv_13]; rfl), trivial⟩, hS.weak ⟨rfl, rfl, trivial⟩⟩)
   refine guard_off hF rfl rfl hbv_13 rfl fun a hF => step hF (Y.pick_f hF rfl hbv_13 rfl) rfl fun a hF => nT ⟨hF.weak ⟨rfl, rfl, (by rw [hbv_13]; rfl), trivial⟩, hS.weak ⟨rfl, rfl, trivial⟩⟩
  intro a w hF hS
  refine step hF (Y.move hF rfl) rfl fun a hF => join (N := 127) (rs := []) (w0 := w0) (D0 := D0) 3 (us := [(0, .bool false), (126, .bool (((t_7 && ([rv_14.1.Pre, rv_14.1.Home, rv_14.1.First, rv_14.1.Send] == [(-1), 10, 1, 6])) && rv_16.1) && (rv_18.1 == 13)))]) (ms := [(2, .cells b [iv rv_3.1.Low, iv rv_3.1.High] 33), (11, .cells b_1 [iv rv_14.1.Pre, iv rv_14.1.Home, iv rv_14.1.First, iv rv_14.1.Send] 49)]) (D' := Dv_34) ?_ ?_
  ·rcases bcases ((t_7 && ([rv_14.1.Pre, rv_14.1.Home, rv_14.1.First, rv_14.1.Send] == [(-1), 10, 1, 6])) && rv_16.1) with hbv_14 | hbv_14
   ·skip
    refine guard_on hF rfl rfl hbv_14 (step hF (Y.move hF rfl) rfl fun a hF => guard_on hF rfl rfl hbv_14 (step hF (Y.eql hF rfl rfl) rfl fun a hF => step hF (Y.pick_t hF rfl hbv_14 rfl) rfl fun a hF => nT ⟨hF.weak ⟨rfl, (by rw [hbv_14]; rfl), trivial⟩, hS.weak ⟨rfl, rfl, trivial⟩⟩))
   refine guard_off hF rfl rfl hbv_14 rfl fun a hF => guard_off hF rfl rfl hbv_14 rfl fun a hF => step hF (Y.pick_f hF rfl hbv_14 rfl) rfl fun a hF => nT ⟨hF.weak ⟨rfl, (by rw [hbv_14]; rfl), trivial⟩, hS.weak ⟨rfl, rfl, trivial⟩⟩
  intro a w hF hS
  refine step hF (Y.assign hF rfl) rfl fun a hF => nT (ret_ (leavePN _ (nret h) Tryd.results23 hF hS (.cons (.tmp rfl) .nil) .nil rfl))
end Go.Proofs.YtmbgmefmkjeahaaDoor.Rt
