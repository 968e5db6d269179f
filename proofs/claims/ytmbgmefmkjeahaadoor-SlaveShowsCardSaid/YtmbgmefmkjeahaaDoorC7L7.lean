/- Walks of the functions of this seat: what each Go function comes to, as a Lean function, and the proof. A law. Under no conditions. -/
import Derived.Test.YtmbgmefmkjeahaaDoorC7WNZ
set_option linter.unusedVariables false
set_option linter.unusedSimpArgs false
set_option maxRecDepth 100000
set_option maxHeartbeats 4000000
namespace Go.Proofs.YtmbgmefmkjeahaaDoor.Rt
open Go Go.RowKit
noncomputable def w7SlaveShows (l : SlaveLine) (who : Int) (bits : (List Int)) : ND Bool :=
  (ND.det (w7sound l) fun rv =>
  cond (!rv)
  ((ND.bnd (w7works) fun rv_1 =>
  ND.ret rv_1))
  ((ND.det (r0Rest who (l.Starts.length : Int)) fun rv_2 =>
  (ND.det (w7was l rv_2 bits) fun rv_3 =>
  (ND.det (slave_IsStory rv_3.2.2 rv_2 rv_3.1) fun rv_4 =>
  (ND.bnd (slave_Can rv_3.2.2 rv_2) fun rv_5 =>
  (ND.bnd (slave_Lost rv_3.2.2 rv_2) fun rv_6 =>
  (ND.bnd (slave_Story rv_3.2.2 rv_2) fun rv_7 =>
  (ND.det (cond (rv_4.2 != 0) (some true) (some (rv_5.2 != 0))) fun t =>
  (ND.det (cond t (some true) (some (rv_6.2 != 0))) fun t_1 =>
  (ND.det (cond t_1 (some true) (some (rv_7.2 != 0))) fun t_2 =>
  (ND.det (cond t_2 (some true) (some (!rv_4.1))) fun t_3 =>
  (ND.det (cond t_3 (some true) ((r0Find rv_5.1 rv_3.2.1.Shown).bind fun rv_8 =>
  some (decide (rv_8 < 0)))) fun t_4 =>
  (ND.det (cond t_4 (some true) ((r0Climbs rv_5.1 l.Ring).bind fun rv_9 =>
  some (!rv_9))) fun t_5 =>
  (ND.det (cond t_5 (some true) ((w7lostIn rv_3.1).bind fun rv_10 =>
  (r0Has rv_6.1 rv_10).bind fun rv_11 =>
  some (!rv_11))) fun t_6 =>
  (ND.det (cond t_6 (some true) ((w7lostIn rv_7.1).bind fun rv_12 =>
  some (rv_12 != rv_6.1.Low))) fun t_7 =>
  cond t_7
  (ND.ret false)
  ((ND.det (slave_IsStory rv_3.2.2 rv_2 rv_7.1) fun rv_13 =>
  (ND.bnd (cond ((rv_13.2 == 0) && rv_13.1) ((ND.bnd (w7works) fun rv_15 =>
  ND.ret rv_15)) (ND.ret false)) fun t_8 =>
  ND.ret t_8)))))))))))))))))))
theorem w7SlaveShows_ok {w0 : World} {D0 : Stab} (hD : D0.on w0) (l : SlaveLine) (who : Int) (bits : (List Int)) {p : Option Addr} {c : Nat} {p_1 : Option Addr} {c_1 : Nat} {p_2 : Option Addr} {c_2 : Nat} (hs : SRc C_SlaveStart D0 l.Starts p c) (hs_1 : SRc C_SlaveEvent D0 l.Events p_1 c_1) (hs_2 : SRc C_int D0 bits p_2 c_2) (hG : Glob D0) (out : Bool → Prop) (h : w7SlaveShows l who bits out) : Calls Tryd.prog 7 [.agg #[.int .i64 l.Ring, .slice p l.Starts.length c, .slice p_1 l.Events.length c_1], .int .i64 who, .slice p_2 bits.length c_2].toArray w0 (RetPN D0 w0 out fun (out : Bool) => .bool out) := by
 refine enter _ 122 Tryd.func7 rfl Tryd.ntmps7 rfl fun a hF => ?_
 replace hF : Frm 122 [] [(0, .agg #[.int .i64 l.Ring, .slice p l.Starts.length c, .slice p_1 l.Events.length c_1]), (1, .int .i64 who), (2, .slice p_2 bits.length c_2)] a := hF
 have hS := St.start hD
 unfold w7SlaveShows at h
 refine seq (region (O.box (cs := [.int .i64 l.Ring, .slice p l.Starts.length c, .slice p_1 l.Events.length c_1]) 1 hF rfl rfl hS rfl fun b a w hF hS => step hF (Y.assign hF rfl) rfl fun a hF => nil (then_n (seq (seq (region (step hF (Y.loadNL 1 sz_25 hF rfl hS rfl rfl rfl) rfl fun a hF => ?_)))))))
 obtain ⟨rv, hx, h⟩ := ndet h
 refine O.callP (us := [.agg #[.int .i64 l.Ring, .slice p l.Starts.length c, .slice p_1 l.Events.length c_1]]) ca_36 hF hS (w7sound_ok hS.stab l hs hs_1 rv hx) rfl rfl fun a w hF hS => step hF (Y.not hF rfl) rfl fun a hF => nil (then_n (cond_b hF rfl (fun hbv => ?_) (fun hbv => ?_)))
 ·replace h := ncond_t h hbv
  refine seq (region ?_)
  obtain ⟨KQ, hx_1, hk⟩ := nbnd_ex h
  refine O.callPN (us := []) ca_23 hF hS (w7works_ok hS.stab hG KQ hx_1) rfl rfl fun rv_1 h a w hF hS => ?_
  replace h := hk _ h
  refine step hF (Y.assign hF rfl) rfl fun a hF => nil (then_n (ret_ (then_r (leavePN _ (nret h) Tryd.results7 hF hS (.cons (.tmp rfl) .nil) .nil rfl))))
 replace h := ncond_f h hbv
 refine skip_ (then_n (seq (region (step hF (Y.move hF rfl) rfl fun a hF => step hF (Y.fieldAddr fo_25_1 hF rfl) rfl fun a hF => step hF (Y.load1L 1 sz_22 hF rfl hS rfl rfl) rfl fun a hF => step hF (Y.lenSl u_22 hF rfl) rfl fun a hF => ?_))))
 obtain ⟨rv_2, hx_2, h⟩ := ndet h
 refine O.callP (us := [.int .i64 who, .int .i64 (l.Starts.length : Int)]) ca_37 hF hS (r0Rest_ok hS.stab who (l.Starts.length : Int) rv_2 hx_2) rfl rfl fun a w hF hS => step hF (Y.assign hF rfl) rfl fun a hF => nil (then_n (seq (region (step hF (Y.loadNL 1 sz_25 hF rfl hS rfl rfl rfl) rfl fun a hF => step hF (Y.move hF rfl) rfl fun a hF => step hF (Y.move hF rfl) rfl fun a hF => ?_))))
 obtain ⟨rv_3, hx_3, h⟩ := ndet h
 refine O.callS (us := [.agg #[.int .i64 l.Ring, .slice p l.Starts.length c, .slice p_1 l.Events.length c_1], .int .i64 rv_2, .slice p_2 bits.length c_2]) ca_38 hF hS (w7was_ok hS.stab l rv_2 bits hs hs_1 hs_2 rv_3 hx_3) rfl rfl fun v Dv a w hR hlev hF hS => ?_
 replace hG := hG.mono hlev
 obtain ⟨p_3, c_3, p_4, c_4, p_5, c_5, rfl, hs_3, hs_4, hs_5⟩ := hR
 refine step hF (Y.move hF rfl) rfl fun a hF => step hF (Y.extract hF rfl rfl) rfl fun a hF => step hF (Y.extract hF rfl rfl) rfl fun a hF => step hF (Y.extract hF rfl rfl) rfl fun a hF => O.alloc 2 zc_57 hF hS rfl fun b_1 a w hF hS => O.alloc 3 zc_25 hF hS rfl fun b_2 a w hF hS => step hF (Y.assign hF rfl) rfl fun a hF => O.store (us := [.int .i64 rv_3.2.1.Shown, .int .i64 rv_3.2.1.Last]) 2 sz_57 hF rfl rfl rfl rfl hS rfl rfl fun a w hF hS => O.store (us := [.int .i64 rv_3.2.2.Ring, .slice p_4 rv_3.2.2.Starts.length c_4, .slice p_5 rv_3.2.2.Events.length c_5]) 3 sz_25 hF rfl rfl rfl rfl hS rfl rfl fun a w hF hS => nil (then_n (seq (region (step hF (Y.loadNL 3 sz_25 hF rfl hS rfl rfl rfl) rfl fun a hF => step hF (Y.move hF rfl) rfl fun a hF => step hF (Y.move hF rfl) rfl fun a hF => ?_))))
 obtain ⟨rv_4, hx_4, h⟩ := ndet h
 refine O.callP (us := [.agg #[.int .i64 rv_3.2.2.Ring, .slice p_4 rv_3.2.2.Starts.length c_4, .slice p_5 rv_3.2.2.Events.length c_5], .int .i64 rv_2, .slice p_3 rv_3.1.length c_3]) ca_24 hF hS (slave_IsStory_ok hS.stab rv_3.2.2 rv_2 rv_3.1 hs_4 hs_5 hs_3 hG rv_4 hx_4) rfl rfl fun a w hF hS => step hF (Y.move hF rfl) rfl fun a hF => step hF (Y.extract hF rfl rfl) rfl fun a hF => step hF (Y.extract hF rfl rfl) rfl fun a hF => step hF (Y.assign hF rfl) rfl fun a hF => step hF (Y.assign hF rfl) rfl fun a hF => nil (then_n (seq (region (step hF (Y.loadNL 3 sz_25 hF rfl hS rfl rfl rfl) rfl fun a hF => step hF (Y.move hF rfl) rfl fun a hF => ?_))))
 obtain ⟨KQ_1, hx_5, hk_1⟩ := nbnd_ex h
 refine O.callSN (us := [.agg #[.int .i64 rv_3.2.2.Ring, .slice p_4 rv_3.2.2.Starts.length c_4, .slice p_5 rv_3.2.2.Events.length c_5], .int .i64 rv_2]) ca_16 hF hS (slave_Can_ok hS.stab rv_3.2.2 rv_2 hs_4 hs_5 hG KQ_1 hx_5) rfl rfl fun rv_5 h v_1 Dv_1 a w hR_1 hlev_1 hF hS => ?_
 replace h := hk_1 _ h
 replace hG := hG.mono hlev_1
 replace hs_3 := hs_3.mono hlev_1
 replace hs_4 := hs_4.mono hlev_1
 replace hs_5 := hs_5.mono hlev_1
 obtain ⟨p_6, c_6, rfl, hs_6⟩ := hR_1
 refine step hF (Y.move hF rfl) rfl fun a hF => step hF (Y.extract hF rfl rfl) rfl fun a hF => step hF (Y.extract hF rfl rfl) rfl fun a hF => step hF (Y.assign hF rfl) rfl fun a hF => step hF (Y.assign hF rfl) rfl fun a hF => nil (then_n (seq (region (step hF (Y.loadNL 3 sz_25 hF rfl hS rfl rfl rfl) rfl fun a hF => step hF (Y.move hF rfl) rfl fun a hF => ?_))))
 obtain ⟨KQ_2, hx_6, hk_2⟩ := nbnd_ex h
 refine O.callPN (us := [.agg #[.int .i64 rv_3.2.2.Ring, .slice p_4 rv_3.2.2.Starts.length c_4, .slice p_5 rv_3.2.2.Events.length c_5], .int .i64 rv_2]) ca_21 hF hS (slave_Lost_ok hS.stab rv_3.2.2 rv_2 hs_4 hs_5 hG KQ_2 hx_6) rfl rfl fun rv_6 h a w hF hS => ?_
 replace h := hk_2 _ h
 refine step hF (Y.move hF rfl) rfl fun a hF => step hF (Y.extract hF rfl rfl) rfl fun a hF => step hF (Y.extract hF rfl rfl) rfl fun a hF => O.alloc 4 zc_33 hF hS rfl fun b_3 a w hF hS => O.store (us := [.int .i64 rv_6.1.Low, .int .i64 rv_6.1.High]) 4 sz_33 hF rfl rfl rfl rfl hS rfl rfl fun a w hF hS => step hF (Y.assign hF rfl) rfl fun a hF => nil (then_n (seq (region (step hF (Y.loadNL 3 sz_25 hF rfl hS rfl rfl rfl) rfl fun a hF => step hF (Y.move hF rfl) rfl fun a hF => ?_))))
 obtain ⟨KQ_3, hx_7, hk_3⟩ := nbnd_ex h
 refine O.callSN (us := [.agg #[.int .i64 rv_3.2.2.Ring, .slice p_4 rv_3.2.2.Starts.length c_4, .slice p_5 rv_3.2.2.Events.length c_5], .int .i64 rv_2]) ca_26 hF hS (slave_Story_ok hS.stab rv_3.2.2 rv_2 hs_4 hs_5 hG KQ_3 hx_7) rfl rfl fun rv_7 h v_2 Dv_2 a w hR_2 hlev_2 hF hS => ?_
 replace h := hk_3 _ h
 replace hG := hG.mono hlev_2
 replace hs_3 := hs_3.mono hlev_2
 replace hs_4 := hs_4.mono hlev_2
 replace hs_5 := hs_5.mono hlev_2
 replace hs_6 := hs_6.mono hlev_2
 obtain ⟨p_7, c_7, rfl, hs_7⟩ := hR_2
 refine step hF (Y.move hF rfl) rfl fun a hF => step hF (Y.extract hF rfl rfl) rfl fun a hF => step hF (Y.extract hF rfl rfl) rfl fun a hF => step hF (Y.assign hF rfl) rfl fun a hF => step hF (Y.assign hF rfl) rfl fun a hF => nil (then_n (seq (seq ?_)))
 obtain ⟨t, ht, h⟩ := ndet h
 obtain ⟨t_1, ht_1, h⟩ := ndet h
 obtain ⟨t_2, ht_2, h⟩ := ndet h
 obtain ⟨t_3, ht_3, h⟩ := ndet h
 obtain ⟨t_4, ht_4, h⟩ := ndet h
 obtain ⟨t_5, ht_5, h⟩ := ndet h
 obtain ⟨t_6, ht_6, h⟩ := ndet h
 obtain ⟨t_7, ht_7, h⟩ := ndet h
 refine drawsV 46 (.flt 0 (.flt 1 (.flt 2 (.flt 3 (.flt 4 (.flt 5 (.flt 6 (.flt 7 (.flt 8 (.flt 9 (.flt 10 (.flt 11 (.flt 12 (.flt 13 (.flt 14 (.flt 15 (.flt 16 (.flt 17 (.flt 18 (.flt 19 (.flt 20 (.flt 21 (.alt 22 (.flt 23 (.flt 24 (.flt 25 (.flt 26 (.flt 27 (.flt 28 (.alt 29 (.flt 30 (.flt 31 (.flt 32 (.flt 33 (.flt 34 (.alt 35 (.alt 36 (.flt 37 (.flt 38 (.flt 39 (.flt 40 (.flt 42 (.flt 43 (.alt 41 (.flt 44 (.flt 45 .done)) .stop))))))) .stop) .stop)))))) .stop))))))) .stop))))))))))))))))))))))) mixed_ (by kernel_rfl) (fun w => St w0 D0 Dv_2 [(1, .cells b [.int .i64 l.Ring, .slice p l.Starts.length c, .slice p_1 l.Events.length c_1] 25), (2, .cells b_1 [.int .i64 rv_3.2.1.Shown, .int .i64 rv_3.2.1.Last] 57), (3, .cells b_2 [.int .i64 rv_3.2.2.Ring, .slice p_4 rv_3.2.2.Starts.length c_4, .slice p_5 rv_3.2.2.Events.length c_5] 25), (4, .cells b_3 [.int .i64 rv_6.1.Low, .int .i64 rv_6.1.High] 33)] w) (fun a w => Frm 122 [] [(6, .bool false), (7, .int .i64 rv_2), (10, .pointer (some ⟨b_2, 0, none⟩)), (11, .bool rv_4.1), (12, .int .i64 rv_4.2), (17, .slice p_7 rv_7.1.length c_7), (106, .bool t_7)] a ∧ St w0 D0 Dv_2 [(1, .cells b [.int .i64 l.Ring, .slice p l.Starts.length c, .slice p_1 l.Events.length c_1] 25), (2, .cells b_1 [.int .i64 rv_3.2.1.Shown, .int .i64 rv_3.2.1.Last] 57), (3, .cells b_2 [.int .i64 rv_3.2.2.Ring, .slice p_4 rv_3.2.2.Starts.length c_4, .slice p_5 rv_3.2.2.Events.length c_5] 25), (4, .cells b_3 [.int .i64 rv_6.1.Low, .int .i64 rv_6.1.High] 33)] w) (hS.weak (ms := [(1, .cells b [.int .i64 l.Ring, .slice p l.Starts.length c, .slice p_1 l.Events.length c_1] 25), (2, .cells b_1 [.int .i64 rv_3.2.1.Shown, .int .i64 rv_3.2.1.Last] 57), (3, .cells b_2 [.int .i64 rv_3.2.2.Ring, .slice p_4 rv_3.2.2.Starts.length c_4, .slice p_5 rv_3.2.2.Events.length c_5] 25), (4, .cells b_3 [.int .i64 rv_6.1.Low, .int .i64 rv_6.1.High] 33)]) ⟨rfl, rfl, rfl, rfl, trivial⟩).drew (fun _ _ _ _ h => h) ?_ ?_
 ·replace hS := hS.drew
  have hle0 := hS.le
  rcases bcases (rv_4.2 != 0) with hbv_1 | hbv_1
  ·skip
   replace ht := cond_t ht hbv_1
   obtain rfl := some_inj ht
   replace ht_1 := cond_t ht_1 rfl
   obtain rfl := some_inj ht_1
   replace ht_2 := cond_t ht_2 rfl
   obtain rfl := some_inj ht_2
   replace ht_3 := cond_t ht_3 rfl
   obtain rfl := some_inj ht_3
   replace ht_4 := cond_t ht_4 rfl
   obtain rfl := some_inj ht_4
   replace ht_5 := cond_t ht_5 rfl
   obtain rfl := some_inj ht_5
   replace ht_6 := cond_t ht_6 rfl
   obtain rfl := some_inj ht_6
   replace ht_7 := cond_t ht_7 rfl
   obtain rfl := some_inj ht_7
   refine stepV (i := 0) rfl hF (fun w hS => Y.move hF rfl) rfl fun a hF => stepV (i := 1) rfl hF (fun w hS => Y.neq hF rfl rfl) rfl fun a hF => stepV (i := 2) rfl hF (fun w hS => Y.move hF rfl) rfl fun a hF => stepV_off (i := 3) rfl hF rfl rfl hbv_1 rfl fun a hF => stepV_off (i := 4) rfl hF rfl rfl hbv_1 rfl fun a hF => stepV (i := 5) rfl hF (fun w hS => Y.pick_t hF rfl hbv_1 rfl) rfl fun a hF => stepV (i := 6) rfl hF (fun w hS => Y.move hF rfl) rfl fun a hF => stepV_off (i := 7) rfl hF rfl rfl rfl rfl fun a hF => stepV_off (i := 8) rfl hF rfl rfl rfl rfl fun a hF => stepV (i := 9) rfl hF (fun w hS => Y.pick_t hF rfl rfl rfl) rfl fun a hF => stepV (i := 10) rfl hF (fun w hS => Y.move hF rfl) rfl fun a hF => stepV_off (i := 11) rfl hF rfl rfl rfl rfl fun a hF => stepV_off (i := 12) rfl hF rfl rfl rfl rfl fun a hF => stepV (i := 13) rfl hF (fun w hS => Y.pick_t hF rfl rfl rfl) rfl fun a hF => stepV (i := 14) rfl hF (fun w hS => Y.move hF rfl) rfl fun a hF => stepV_off (i := 15) rfl hF rfl rfl rfl rfl fun a hF => stepV_off (i := 16) rfl hF rfl rfl rfl rfl fun a hF => stepV (i := 17) rfl hF (fun w hS => Y.pick_t hF rfl rfl rfl) rfl fun a hF => stepV (i := 18) rfl hF (fun w hS => Y.move hF rfl) rfl fun a hF => stepV_off (i := 19) rfl hF rfl rfl rfl rfl fun a hF => stepV_off (i := 20) rfl hF rfl rfl rfl rfl fun a hF => stepV_off (i := 21) rfl hF rfl rfl rfl rfl fun a hF => oneV (i := 22) rfl ?_ trivial
   refine guard_off hF rfl rfl rfl rfl fun a hF => nil (then_n ⟨hS.weak ⟨rfl, rfl, rfl, rfl, trivial⟩, ?_⟩)
   refine stepV_off (i := 23) rfl hF rfl rfl rfl rfl fun a hF => stepV (i := 24) rfl hF (fun w hS => Y.pick_t hF rfl rfl rfl) rfl fun a hF => stepV (i := 25) rfl hF (fun w hS => Y.move hF rfl) rfl fun a hF => stepV_off (i := 26) rfl hF rfl rfl rfl rfl fun a hF => stepV_off (i := 27) rfl hF rfl rfl rfl rfl fun a hF => stepV_off (i := 28) rfl hF rfl rfl rfl rfl fun a hF => oneV (i := 29) rfl ?_ trivial
   refine guard_off hF rfl rfl rfl rfl fun a hF => nil (then_n ⟨hS.weak ⟨rfl, rfl, rfl, rfl, trivial⟩, ?_⟩)
   refine stepV_off (i := 30) rfl hF rfl rfl rfl rfl fun a hF => stepV (i := 31) rfl hF (fun w hS => Y.pick_t hF rfl rfl rfl) rfl fun a hF => stepV (i := 32) rfl hF (fun w hS => Y.move hF rfl) rfl fun a hF => stepV_off (i := 33) rfl hF rfl rfl rfl rfl fun a hF => stepV_off (i := 34) rfl hF rfl rfl rfl rfl fun a hF => oneV (i := 35) rfl ?_ trivial
   refine guard_off hF rfl rfl rfl rfl fun a hF => nil (then_n ⟨hS.weak ⟨rfl, rfl, rfl, rfl, trivial⟩, ?_⟩)
   refine oneV (i := 36) rfl ?_ trivial
   refine guard_off hF rfl rfl rfl rfl fun a hF => nil (then_n ⟨hS.weak ⟨rfl, rfl, rfl, rfl, trivial⟩, ?_⟩)
   refine stepV_off (i := 37) rfl hF rfl rfl rfl rfl fun a hF => stepV (i := 38) rfl hF (fun w hS => Y.pick_t hF rfl rfl rfl) rfl fun a hF => stepV (i := 39) rfl hF (fun w hS => Y.move hF rfl) rfl fun a hF => stepV_off (i := 40) rfl hF rfl rfl rfl rfl fun a hF => stepV_off (i := 42) rfl hF rfl rfl rfl rfl fun a hF => stepV_off (i := 43) rfl hF rfl rfl rfl rfl fun a hF => oneV (i := 41) rfl ?_ trivial
   refine guard_off hF rfl rfl rfl rfl fun a hF => nil (then_n ⟨hS.weak ⟨rfl, rfl, rfl, rfl, trivial⟩, ?_⟩)
   refine stepV_off (i := 44) rfl hF rfl rfl rfl rfl fun a hF => stepV (i := 45) rfl hF (fun w hS => Y.pick_t hF rfl rfl rfl) rfl fun a hF => toTailV ⟨hF.weak ⟨rfl, rfl, rfl, rfl, rfl, rfl, rfl, trivial⟩, hS.weak ⟨rfl, rfl, rfl, rfl, trivial⟩⟩
  replace ht := cond_f ht hbv_1
  obtain rfl := some_inj ht
  rcases bcases (rv_5.2 != 0) with hbv_2 | hbv_2
  ·skip
   replace ht_1 := cond_t ht_1 hbv_2
   obtain rfl := some_inj ht_1
   replace ht_2 := cond_t ht_2 rfl
   obtain rfl := some_inj ht_2
   replace ht_3 := cond_t ht_3 rfl
   obtain rfl := some_inj ht_3
   replace ht_4 := cond_t ht_4 rfl
   obtain rfl := some_inj ht_4
   replace ht_5 := cond_t ht_5 rfl
   obtain rfl := some_inj ht_5
   replace ht_6 := cond_t ht_6 rfl
   obtain rfl := some_inj ht_6
   replace ht_7 := cond_t ht_7 rfl
   obtain rfl := some_inj ht_7
   refine stepV (i := 0) rfl hF (fun w hS => Y.move hF rfl) rfl fun a hF => stepV (i := 1) rfl hF (fun w hS => Y.neq hF rfl rfl) rfl fun a hF => stepV (i := 2) rfl hF (fun w hS => Y.move hF rfl) rfl fun a hF => stepV_on (i := 3) rfl hF rfl rfl hbv_1 (fun w hS => Y.move hF rfl) rfl fun a hF => stepV_on (i := 4) rfl hF rfl rfl hbv_1 (fun w hS => Y.neq hF rfl rfl) rfl fun a hF => stepV (i := 5) rfl hF (fun w hS => Y.pick_f hF rfl hbv_1 rfl) rfl fun a hF => stepV (i := 6) rfl hF (fun w hS => Y.move hF rfl) rfl fun a hF => stepV_off (i := 7) rfl hF rfl rfl hbv_2 rfl fun a hF => stepV_off (i := 8) rfl hF rfl rfl hbv_2 rfl fun a hF => stepV (i := 9) rfl hF (fun w hS => Y.pick_t hF rfl hbv_2 rfl) rfl fun a hF => stepV (i := 10) rfl hF (fun w hS => Y.move hF rfl) rfl fun a hF => stepV_off (i := 11) rfl hF rfl rfl rfl rfl fun a hF => stepV_off (i := 12) rfl hF rfl rfl rfl rfl fun a hF => stepV (i := 13) rfl hF (fun w hS => Y.pick_t hF rfl rfl rfl) rfl fun a hF => stepV (i := 14) rfl hF (fun w hS => Y.move hF rfl) rfl fun a hF => stepV_off (i := 15) rfl hF rfl rfl rfl rfl fun a hF => stepV_off (i := 16) rfl hF rfl rfl rfl rfl fun a hF => stepV (i := 17) rfl hF (fun w hS => Y.pick_t hF rfl rfl rfl) rfl fun a hF => stepV (i := 18) rfl hF (fun w hS => Y.move hF rfl) rfl fun a hF => stepV_off (i := 19) rfl hF rfl rfl rfl rfl fun a hF => stepV_off (i := 20) rfl hF rfl rfl rfl rfl fun a hF => stepV_off (i := 21) rfl hF rfl rfl rfl rfl fun a hF => oneV (i := 22) rfl ?_ trivial
   refine guard_off hF rfl rfl rfl rfl fun a hF => nil (then_n ⟨hS.weak ⟨rfl, rfl, rfl, rfl, trivial⟩, ?_⟩)
   refine stepV_off (i := 23) rfl hF rfl rfl rfl rfl fun a hF => stepV (i := 24) rfl hF (fun w hS => Y.pick_t hF rfl rfl rfl) rfl fun a hF => stepV (i := 25) rfl hF (fun w hS => Y.move hF rfl) rfl fun a hF => stepV_off (i := 26) rfl hF rfl rfl rfl rfl fun a hF => stepV_off (i := 27) rfl hF rfl rfl rfl rfl fun a hF => stepV_off (i := 28) rfl hF rfl rfl rfl rfl fun a hF => oneV (i := 29) rfl ?_ trivial
   refine guard_off hF rfl rfl rfl rfl fun a hF => nil (then_n ⟨hS.weak ⟨rfl, rfl, rfl, rfl, trivial⟩, ?_⟩)
   refine stepV_off (i := 30) rfl hF rfl rfl rfl rfl fun a hF => stepV (i := 31) rfl hF (fun w hS => Y.pick_t hF rfl rfl rfl) rfl fun a hF => stepV (i := 32) rfl hF (fun w hS => Y.move hF rfl) rfl fun a hF => stepV_off (i := 33) rfl hF rfl rfl rfl rfl fun a hF => stepV_off (i := 34) rfl hF rfl rfl rfl rfl fun a hF => oneV (i := 35) rfl ?_ trivial
   refine guard_off hF rfl rfl rfl rfl fun a hF => nil (then_n ⟨hS.weak ⟨rfl, rfl, rfl, rfl, trivial⟩, ?_⟩)
   refine oneV (i := 36) rfl ?_ trivial
   refine guard_off hF rfl rfl rfl rfl fun a hF => nil (then_n ⟨hS.weak ⟨rfl, rfl, rfl, rfl, trivial⟩, ?_⟩)
   refine stepV_off (i := 37) rfl hF rfl rfl rfl rfl fun a hF => stepV (i := 38) rfl hF (fun w hS => Y.pick_t hF rfl rfl rfl) rfl fun a hF => stepV (i := 39) rfl hF (fun w hS => Y.move hF rfl) rfl fun a hF => stepV_off (i := 40) rfl hF rfl rfl rfl rfl fun a hF => stepV_off (i := 42) rfl hF rfl rfl rfl rfl fun a hF => stepV_off (i := 43) rfl hF rfl rfl rfl rfl fun a hF => oneV (i := 41) rfl ?_ trivial
   refine guard_off hF rfl rfl rfl rfl fun a hF => nil (then_n ⟨hS.weak ⟨rfl, rfl, rfl, rfl, trivial⟩, ?_⟩)
   refine stepV_off (i := 44) rfl hF rfl rfl rfl rfl fun a hF => stepV (i := 45) rfl hF (fun w hS => Y.pick_t hF rfl rfl rfl) rfl fun a hF => toTailV ⟨hF.weak ⟨rfl, rfl, rfl, rfl, rfl, rfl, rfl, trivial⟩, hS.weak ⟨rfl, rfl, rfl, rfl, trivial⟩⟩
  replace ht_1 := cond_f ht_1 hbv_2
  obtain rfl := some_inj ht_1
  rcases bcases (rv_6.2 != 0) with hbv_3 | hbv_3
  ·skip
   replace ht_2 := cond_t ht_2 hbv_3
   obtain rfl := some_inj ht_2
   replace ht_3 := cond_t ht_3 rfl
   obtain rfl := some_inj ht_3
   replace ht_4 := cond_t ht_4 rfl
   obtain rfl := some_inj ht_4
   replace ht_5 := cond_t ht_5 rfl
   obtain rfl := some_inj ht_5
   replace ht_6 := cond_t ht_6 rfl
   obtain rfl := some_inj ht_6
   replace ht_7 := cond_t ht_7 rfl
   obtain rfl := some_inj ht_7
   refine stepV (i := 0) rfl hF (fun w hS => Y.move hF rfl) rfl fun a hF => stepV (i := 1) rfl hF (fun w hS => Y.neq hF rfl rfl) rfl fun a hF => stepV (i := 2) rfl hF (fun w hS => Y.move hF rfl) rfl fun a hF => stepV_on (i := 3) rfl hF rfl rfl hbv_1 (fun w hS => Y.move hF rfl) rfl fun a hF => stepV_on (i := 4) rfl hF rfl rfl hbv_1 (fun w hS => Y.neq hF rfl rfl) rfl fun a hF => stepV (i := 5) rfl hF (fun w hS => Y.pick_f hF rfl hbv_1 rfl) rfl fun a hF => stepV (i := 6) rfl hF (fun w hS => Y.move hF rfl) rfl fun a hF => stepV_on (i := 7) rfl hF rfl rfl hbv_2 (fun w hS => Y.move hF rfl) rfl fun a hF => stepV_on (i := 8) rfl hF rfl rfl hbv_2 (fun w hS => Y.neq hF rfl rfl) rfl fun a hF => stepV (i := 9) rfl hF (fun w hS => Y.pick_f hF rfl hbv_2 rfl) rfl fun a hF => stepV (i := 10) rfl hF (fun w hS => Y.move hF rfl) rfl fun a hF => stepV_off (i := 11) rfl hF rfl rfl hbv_3 rfl fun a hF => stepV_off (i := 12) rfl hF rfl rfl hbv_3 rfl fun a hF => stepV (i := 13) rfl hF (fun w hS => Y.pick_t hF rfl hbv_3 rfl) rfl fun a hF => stepV (i := 14) rfl hF (fun w hS => Y.move hF rfl) rfl fun a hF => stepV_off (i := 15) rfl hF rfl rfl rfl rfl fun a hF => stepV_off (i := 16) rfl hF rfl rfl rfl rfl fun a hF => stepV (i := 17) rfl hF (fun w hS => Y.pick_t hF rfl rfl rfl) rfl fun a hF => stepV (i := 18) rfl hF (fun w hS => Y.move hF rfl) rfl fun a hF => stepV_off (i := 19) rfl hF rfl rfl rfl rfl fun a hF => stepV_off (i := 20) rfl hF rfl rfl rfl rfl fun a hF => stepV_off (i := 21) rfl hF rfl rfl rfl rfl fun a hF => oneV (i := 22) rfl ?_ trivial
   refine guard_off hF rfl rfl rfl rfl fun a hF => nil (then_n ⟨hS.weak ⟨rfl, rfl, rfl, rfl, trivial⟩, ?_⟩)
   refine stepV_off (i := 23) rfl hF rfl rfl rfl rfl fun a hF => stepV (i := 24) rfl hF (fun w hS => Y.pick_t hF rfl rfl rfl) rfl fun a hF => stepV (i := 25) rfl hF (fun w hS => Y.move hF rfl) rfl fun a hF => stepV_off (i := 26) rfl hF rfl rfl rfl rfl fun a hF => stepV_off (i := 27) rfl hF rfl rfl rfl rfl fun a hF => stepV_off (i := 28) rfl hF rfl rfl rfl rfl fun a hF => oneV (i := 29) rfl ?_ trivial
   refine guard_off hF rfl rfl rfl rfl fun a hF => nil (then_n ⟨hS.weak ⟨rfl, rfl, rfl, rfl, trivial⟩, ?_⟩)
   refine stepV_off (i := 30) rfl hF rfl rfl rfl rfl fun a hF => stepV (i := 31) rfl hF (fun w hS => Y.pick_t hF rfl rfl rfl) rfl fun a hF => stepV (i := 32) rfl hF (fun w hS => Y.move hF rfl) rfl fun a hF => stepV_off (i := 33) rfl hF rfl rfl rfl rfl fun a hF => stepV_off (i := 34) rfl hF rfl rfl rfl rfl fun a hF => oneV (i := 35) rfl ?_ trivial
   refine guard_off hF rfl rfl rfl rfl fun a hF => nil (then_n ⟨hS.weak ⟨rfl, rfl, rfl, rfl, trivial⟩, ?_⟩)
   refine oneV (i := 36) rfl ?_ trivial
   refine guard_off hF rfl rfl rfl rfl fun a hF => nil (then_n ⟨hS.weak ⟨rfl, rfl, rfl, rfl, trivial⟩, ?_⟩)
   refine stepV_off (i := 37) rfl hF rfl rfl rfl rfl fun a hF => stepV (i := 38) rfl hF (fun w hS => Y.pick_t hF rfl rfl rfl) rfl fun a hF => stepV (i := 39) rfl hF (fun w hS => Y.move hF rfl) rfl fun a hF => stepV_off (i := 40) rfl hF rfl rfl rfl rfl fun a hF => stepV_off (i := 42) rfl hF rfl rfl rfl rfl fun a hF => stepV_off (i := 43) rfl hF rfl rfl rfl rfl fun a hF => oneV (i := 41) rfl ?_ trivial
   refine guard_off hF rfl rfl rfl rfl fun a hF => nil (then_n ⟨hS.weak ⟨rfl, rfl, rfl, rfl, trivial⟩, ?_⟩)
   refine stepV_off (i := 44) rfl hF rfl rfl rfl rfl fun a hF => stepV (i := 45) rfl hF (fun w hS => Y.pick_t hF rfl rfl rfl) rfl fun a hF => toTailV ⟨hF.weak ⟨rfl, rfl, rfl, rfl, rfl, rfl, rfl, trivial⟩, hS.weak ⟨rfl, rfl, rfl, rfl, trivial⟩⟩
  replace ht_2 := cond_f ht_2 hbv_3
  obtain rfl := some_inj ht_2
  rcases bcases (rv_7.2 != 0) with hbv_4 | hbv_4
  ·skip
   replace ht_3 := cond_t ht_3 hbv_4
   obtain rfl := some_inj ht_3
   replace ht_4 := cond_t ht_4 rfl
   obtain rfl := some_inj ht_4
   replace ht_5 := cond_t ht_5 rfl
   obtain rfl := some_inj ht_5
   replace ht_6 := cond_t ht_6 rfl
   obtain rfl := some_inj ht_6
   replace ht_7 := cond_t ht_7 rfl
   obtain rfl := some_inj ht_7
   refine stepV (i := 0) rfl hF (fun w hS => Y.move hF rfl) rfl fun a hF => stepV (i := 1) rfl hF (fun w hS => Y.neq hF rfl rfl) rfl fun a hF => stepV (i := 2) rfl hF (fun w hS => Y.move hF rfl) rfl fun a hF => stepV_on (i := 3) rfl hF rfl rfl hbv_1 (fun w hS => Y.move hF rfl) rfl fun a hF => stepV_on (i := 4) rfl hF rfl rfl hbv_1 (fun w hS => Y.neq hF rfl rfl) rfl fun a hF => stepV (i := 5) rfl hF (fun w hS => Y.pick_f hF rfl hbv_1 rfl) rfl fun a hF => stepV (i := 6) rfl hF (fun w hS => Y.move hF rfl) rfl fun a hF => stepV_on (i := 7) rfl hF rfl rfl hbv_2 (fun w hS => Y.move hF rfl) rfl fun a hF => stepV_on (i := 8) rfl hF rfl rfl hbv_2 (fun w hS => Y.neq hF rfl rfl) rfl fun a hF => stepV (i := 9) rfl hF (fun w hS => Y.pick_f hF rfl hbv_2 rfl) rfl fun a hF => stepV (i := 10) rfl hF (fun w hS => Y.move hF rfl) rfl fun a hF => stepV_on (i := 11) rfl hF rfl rfl hbv_3 (fun w hS => Y.move hF rfl) rfl fun a hF => stepV_on (i := 12) rfl hF rfl rfl hbv_3 (fun w hS => Y.neq hF rfl rfl) rfl fun a hF => stepV (i := 13) rfl hF (fun w hS => Y.pick_f hF rfl hbv_3 rfl) rfl fun a hF => stepV (i := 14) rfl hF (fun w hS => Y.move hF rfl) rfl fun a hF => stepV_off (i := 15) rfl hF rfl rfl hbv_4 rfl fun a hF => stepV_off (i := 16) rfl hF rfl rfl hbv_4 rfl fun a hF => stepV (i := 17) rfl hF (fun w hS => Y.pick_t hF rfl hbv_4 rfl) rfl fun a hF => stepV (i := 18) rfl hF (fun w hS => Y.move hF rfl) rfl fun a hF => stepV_off (i := 19) rfl hF rfl rfl rfl rfl fun a hF => stepV_off (i := 20) rfl hF rfl rfl rfl rfl fun a hF => stepV_off (i := 21) rfl hF rfl rfl rfl rfl fun a hF => oneV (i := 22) rfl ?_ trivial
   refine guard_off hF rfl rfl rfl rfl fun a hF => nil (then_n ⟨hS.weak ⟨rfl, rfl, rfl, rfl, trivial⟩, ?_⟩)
   refine stepV_off (i := 23) rfl hF rfl rfl rfl rfl fun a hF => stepV (i := 24) rfl hF (fun w hS => Y.pick_t hF rfl rfl rfl) rfl fun a hF => stepV (i := 25) rfl hF (fun w hS => Y.move hF rfl) rfl fun a hF => stepV_off (i := 26) rfl hF rfl rfl rfl rfl fun a hF => stepV_off (i := 27) rfl hF rfl rfl rfl rfl fun a hF => stepV_off (i := 28) rfl hF rfl rfl rfl rfl fun a hF => oneV (i := 29) rfl ?_ trivial
   refine guard_off hF rfl rfl rfl rfl fun a hF => nil (then_n ⟨hS.weak ⟨rfl, rfl, rfl, rfl, trivial⟩, ?_⟩)
   refine stepV_off (i := 30) rfl hF rfl rfl rfl rfl fun a hF => stepV (i := 31) rfl hF (fun w hS => Y.pick_t hF rfl rfl rfl) rfl fun a hF => stepV (i := 32) rfl hF (fun w hS => Y.move hF rfl) rfl fun a hF => stepV_off (i := 33) rfl hF rfl rfl rfl rfl fun a hF => stepV_off (i := 34) rfl hF rfl rfl rfl rfl fun a hF => oneV (i := 35) rfl ?_ trivial
   refine guard_off hF rfl rfl rfl rfl fun a hF => nil (then_n ⟨hS.weak ⟨rfl, rfl, rfl, rfl, trivial⟩, ?_⟩)
   refine oneV (i := 36) rfl ?_ trivial
   refine guard_off hF rfl rfl rfl rfl fun a hF => nil (then_n ⟨hS.weak ⟨rfl, rfl, rfl, rfl, trivial⟩, ?_⟩)
   refine stepV_off (i := 37) rfl hF rfl rfl rfl rfl fun a hF => stepV (i := 38) rfl hF (fun w hS => Y.pick_t hF rfl rfl rfl) rfl fun a hF => stepV (i := 39) rfl hF (fun w hS => Y.move hF rfl) rfl fun a hF => stepV_off (i := 40) rfl hF rfl rfl rfl rfl fun a hF => stepV_off (i := 42) rfl hF rfl rfl rfl rfl fun a hF => stepV_off (i := 43) rfl hF rfl rfl rfl rfl fun a hF => oneV (i := 41) rfl ?_ trivial
   refine guard_off hF rfl rfl rfl rfl fun a hF => nil (then_n ⟨hS.weak ⟨rfl, rfl, rfl, rfl, trivial⟩, ?_⟩)
   refine stepV_off (i := 44) rfl hF rfl rfl rfl rfl fun a hF => stepV (i := 45) rfl hF (fun w hS => Y.pick_t hF rfl rfl rfl) rfl fun a hF => toTailV ⟨hF.weak ⟨rfl, rfl, rfl, rfl, rfl, rfl, rfl, trivial⟩, hS.weak ⟨rfl, rfl, rfl, rfl, trivial⟩⟩
  replace ht_3 := cond_f ht_3 hbv_4
  obtain rfl := some_inj ht_3
  rcases bcases (!rv_4.1) with hbv_5 | hbv_5
  ·skip
   replace ht_4 := cond_t ht_4 hbv_5
   obtain rfl := some_inj ht_4
   replace ht_5 := cond_t ht_5 rfl
   obtain rfl := some_inj ht_5
   replace ht_6 := cond_t ht_6 rfl
   obtain rfl := some_inj ht_6
   replace ht_7 := cond_t ht_7 rfl
   obtain rfl := some_inj ht_7
   refine stepV (i := 0) rfl hF (fun w hS => Y.move hF rfl) rfl fun a hF => stepV (i := 1) rfl hF (fun w hS => Y.neq hF rfl rfl) rfl fun a hF => stepV (i := 2) rfl hF (fun w hS => Y.move hF rfl) rfl fun a hF => stepV_on (i := 3) rfl hF rfl rfl hbv_1 (fun w hS => Y.move hF rfl) rfl fun a hF => stepV_on (i := 4) rfl hF rfl rfl hbv_1 (fun w hS => Y.neq hF rfl rfl) rfl fun a hF => stepV (i := 5) rfl hF (fun w hS => Y.pick_f hF rfl hbv_1 rfl) rfl fun a hF => stepV (i := 6) rfl hF (fun w hS => Y.move hF rfl) rfl fun a hF => stepV_on (i := 7) rfl hF rfl rfl hbv_2 (fun w hS => Y.move hF rfl) rfl fun a hF => stepV_on (i := 8) rfl hF rfl rfl hbv_2 (fun w hS => Y.neq hF rfl rfl) rfl fun a hF => stepV (i := 9) rfl hF (fun w hS => Y.pick_f hF rfl hbv_2 rfl) rfl fun a hF => stepV (i := 10) rfl hF (fun w hS => Y.move hF rfl) rfl fun a hF => stepV_on (i := 11) rfl hF rfl rfl hbv_3 (fun w hS => Y.move hF rfl) rfl fun a hF => stepV_on (i := 12) rfl hF rfl rfl hbv_3 (fun w hS => Y.neq hF rfl rfl) rfl fun a hF => stepV (i := 13) rfl hF (fun w hS => Y.pick_f hF rfl hbv_3 rfl) rfl fun a hF => stepV (i := 14) rfl hF (fun w hS => Y.move hF rfl) rfl fun a hF => stepV_on (i := 15) rfl hF rfl rfl hbv_4 (fun w hS => Y.move hF rfl) rfl fun a hF => stepV_on (i := 16) rfl hF rfl rfl hbv_4 (fun w hS => Y.not hF rfl) rfl fun a hF => stepV (i := 17) rfl hF (fun w hS => Y.pick_f hF rfl hbv_4 rfl) rfl fun a hF => stepV (i := 18) rfl hF (fun w hS => Y.move hF rfl) rfl fun a hF => stepV_off (i := 19) rfl hF rfl rfl hbv_5 rfl fun a hF => stepV_off (i := 20) rfl hF rfl rfl hbv_5 rfl fun a hF => stepV_off (i := 21) rfl hF rfl rfl hbv_5 rfl fun a hF => oneV (i := 22) rfl ?_ trivial
   refine guard_off hF rfl rfl hbv_5 rfl fun a hF => nil (then_n ⟨hS.weak ⟨rfl, rfl, rfl, rfl, trivial⟩, ?_⟩)
   refine stepV_off (i := 23) rfl hF rfl rfl hbv_5 rfl fun a hF => stepV (i := 24) rfl hF (fun w hS => Y.pick_t hF rfl hbv_5 rfl) rfl fun a hF => stepV (i := 25) rfl hF (fun w hS => Y.move hF rfl) rfl fun a hF => stepV_off (i := 26) rfl hF rfl rfl rfl rfl fun a hF => stepV_off (i := 27) rfl hF rfl rfl rfl rfl fun a hF => stepV_off (i := 28) rfl hF rfl rfl rfl rfl fun a hF => oneV (i := 29) rfl ?_ trivial
   refine guard_off hF rfl rfl rfl rfl fun a hF => nil (then_n ⟨hS.weak ⟨rfl, rfl, rfl, rfl, trivial⟩, ?_⟩)
   refine stepV_off (i := 30) rfl hF rfl rfl rfl rfl fun a hF => stepV (i := 31) rfl hF (fun w hS => Y.pick_t hF rfl rfl rfl) rfl fun a hF => stepV (i := 32) rfl hF (fun w hS => Y.move hF rfl) rfl fun a hF => stepV_off (i := 33) rfl hF rfl rfl rfl rfl fun a hF => stepV_off (i := 34) rfl hF rfl rfl rfl rfl fun a hF => oneV (i := 35) rfl ?_ trivial
   refine guard_off hF rfl rfl rfl rfl fun a hF => nil (then_n ⟨hS.weak ⟨rfl, rfl, rfl, rfl, trivial⟩, ?_⟩)
   refine oneV (i := 36) rfl ?_ trivial
   refine guard_off hF rfl rfl rfl rfl fun a hF => nil (then_n ⟨hS.weak ⟨rfl, rfl, rfl, rfl, trivial⟩, ?_⟩)
   refine stepV_off (i := 37) rfl hF rfl rfl rfl rfl fun a hF => stepV (i := 38) rfl hF (fun w hS => Y.pick_t hF rfl rfl rfl) rfl fun a hF => stepV (i := 39) rfl hF (fun w hS => Y.move hF rfl) rfl fun a hF => stepV_off (i := 40) rfl hF rfl rfl rfl rfl fun a hF => stepV_off (i := 42) rfl hF rfl rfl rfl rfl fun a hF => stepV_off (i := 43) rfl hF rfl rfl rfl rfl fun a hF => oneV (i := 41) rfl ?_ trivial
   refine guard_off hF rfl rfl rfl rfl fun a hF => nil (then_n ⟨hS.weak ⟨rfl, rfl, rfl, rfl, trivial⟩, ?_⟩)
   refine stepV_off (i := 44) rfl hF rfl rfl rfl rfl fun a hF => stepV (i := 45) rfl hF (fun w hS => Y.pick_t hF rfl rfl rfl) rfl fun a hF => toTailV ⟨hF.weak ⟨rfl, rfl, rfl, rfl, rfl, rfl, rfl, trivial⟩, hS.weak ⟨rfl, rfl, rfl, rfl, trivial⟩⟩
  replace ht_4 := cond_f ht_4 hbv_5
  obtain ⟨rv_8, hx_8, ht_4⟩ := bind_some ht_4
  obtain rfl := some_inj ht_4
  rcases bcases (decide (rv_8 < 0)) with hbv_6 | hbv_6
  ·skip
   replace ht_5 := cond_t ht_5 hbv_6
   obtain rfl := some_inj ht_5
   replace ht_6 := cond_t ht_6 rfl
   obtain rfl := some_inj ht_6
   replace ht_7 := cond_t ht_7 rfl
   obtain rfl := some_inj ht_7
   refine stepV (i := 0) rfl hF (fun w hS => Y.move hF rfl) rfl fun a hF => stepV (i := 1) rfl hF (fun w hS => Y.neq hF rfl rfl) rfl fun a hF => stepV (i := 2) rfl hF (fun w hS => Y.move hF rfl) rfl fun a hF => stepV_on (i := 3) rfl hF rfl rfl hbv_1 (fun w hS => Y.move hF rfl) rfl fun a hF => stepV_on (i := 4) rfl hF rfl rfl hbv_1 (fun w hS => Y.neq hF rfl rfl) rfl fun a hF => stepV (i := 5) rfl hF (fun w hS => Y.pick_f hF rfl hbv_1 rfl) rfl fun a hF => stepV (i := 6) rfl hF (fun w hS => Y.move hF rfl) rfl fun a hF => stepV_on (i := 7) rfl hF rfl rfl hbv_2 (fun w hS => Y.move hF rfl) rfl fun a hF => stepV_on (i := 8) rfl hF rfl rfl hbv_2 (fun w hS => Y.neq hF rfl rfl) rfl fun a hF => stepV (i := 9) rfl hF (fun w hS => Y.pick_f hF rfl hbv_2 rfl) rfl fun a hF => stepV (i := 10) rfl hF (fun w hS => Y.move hF rfl) rfl fun a hF => stepV_on (i := 11) rfl hF rfl rfl hbv_3 (fun w hS => Y.move hF rfl) rfl fun a hF => stepV_on (i := 12) rfl hF rfl rfl hbv_3 (fun w hS => Y.neq hF rfl rfl) rfl fun a hF => stepV (i := 13) rfl hF (fun w hS => Y.pick_f hF rfl hbv_3 rfl) rfl fun a hF => stepV (i := 14) rfl hF (fun w hS => Y.move hF rfl) rfl fun a hF => stepV_on (i := 15) rfl hF rfl rfl hbv_4 (fun w hS => Y.move hF rfl) rfl fun a hF => stepV_on (i := 16) rfl hF rfl rfl hbv_4 (fun w hS => Y.not hF rfl) rfl fun a hF => stepV (i := 17) rfl hF (fun w hS => Y.pick_f hF rfl hbv_4 rfl) rfl fun a hF => stepV (i := 18) rfl hF (fun w hS => Y.move hF rfl) rfl fun a hF => stepV_on (i := 19) rfl hF rfl rfl hbv_5 (fun w hS => Y.move hF rfl) rfl fun a hF => stepV_on (i := 20) rfl hF rfl rfl hbv_5 (fun w hS => Y.fieldAddr fo_57_0 hF rfl) rfl fun a hF => stepV_on (i := 21) rfl hF rfl rfl hbv_5 (fun w hS => Y.load1L 2 sz_3 hF rfl hS rfl rfl) rfl fun a hF => oneV (i := 22) rfl ?_ trivial
   refine guard_on hF rfl rfl hbv_5 (O.callP (us := [.slice p_6 rv_5.1.length c_6, .int .i64 rv_3.2.1.Shown]) ca_39 hF hS (r0Find_ok hS.stab rv_5.1 rv_3.2.1.Shown hs_6 rv_8 hx_8) rfl rfl fun a w hF hS => nil (then_n ⟨hS.weak ⟨rfl, rfl, rfl, rfl, trivial⟩, ?_⟩))
   refine stepV_on (i := 23) rfl hF rfl rfl hbv_5 (fun w hS => Y.lss hF rfl rfl) rfl fun a hF => stepV (i := 24) rfl hF (fun w hS => Y.pick_f hF rfl hbv_5 rfl) rfl fun a hF => stepV (i := 25) rfl hF (fun w hS => Y.move hF rfl) rfl fun a hF => stepV_off (i := 26) rfl hF rfl rfl hbv_6 rfl fun a hF => stepV_off (i := 27) rfl hF rfl rfl hbv_6 rfl fun a hF => stepV_off (i := 28) rfl hF rfl rfl hbv_6 rfl fun a hF => oneV (i := 29) rfl ?_ trivial
   refine guard_off hF rfl rfl hbv_6 rfl fun a hF => nil (then_n ⟨hS.weak ⟨rfl, rfl, rfl, rfl, trivial⟩, ?_⟩)
   refine stepV_off (i := 30) rfl hF rfl rfl hbv_6 rfl fun a hF => stepV (i := 31) rfl hF (fun w hS => Y.pick_t hF rfl hbv_6 rfl) rfl fun a hF => stepV (i := 32) rfl hF (fun w hS => Y.move hF rfl) rfl fun a hF => stepV_off (i := 33) rfl hF rfl rfl rfl rfl fun a hF => stepV_off (i := 34) rfl hF rfl rfl rfl rfl fun a hF => oneV (i := 35) rfl ?_ trivial
   refine guard_off hF rfl rfl rfl rfl fun a hF => nil (then_n ⟨hS.weak ⟨rfl, rfl, rfl, rfl, trivial⟩, ?_⟩)
   refine oneV (i := 36) rfl ?_ trivial
   refine guard_off hF rfl rfl rfl rfl fun a hF => nil (then_n ⟨hS.weak ⟨rfl, rfl, rfl, rfl, trivial⟩, ?_⟩)
   refine stepV_off (i := 37) rfl hF rfl rfl rfl rfl fun a hF => stepV (i := 38) rfl hF (fun w hS => Y.pick_t hF rfl rfl rfl) rfl fun a hF => stepV (i := 39) rfl hF (fun w hS => Y.move hF rfl) rfl fun a hF => stepV_off (i := 40) rfl hF rfl rfl rfl rfl fun a hF => stepV_off (i := 42) rfl hF rfl rfl rfl rfl fun a hF => stepV_off (i := 43) rfl hF rfl rfl rfl rfl fun a hF => oneV (i := 41) rfl ?_ trivial
   refine guard_off hF rfl rfl rfl rfl fun a hF => nil (then_n ⟨hS.weak ⟨rfl, rfl, rfl, rfl, trivial⟩, ?_⟩)
   refine stepV_off (i := 44) rfl hF rfl rfl rfl rfl fun a hF => stepV (i := 45) rfl hF (fun w hS => Y.pick_t hF rfl rfl rfl) rfl fun a hF => toTailV ⟨hF.weak ⟨rfl, rfl, rfl, rfl, rfl, rfl, rfl, trivial⟩, hS.weak ⟨rfl, rfl, rfl, rfl, trivial⟩⟩
  replace ht_5 := cond_f ht_5 hbv_6
  obtain ⟨rv_9, hx_9, ht_5⟩ := bind_some ht_5
  obtain rfl := some_inj ht_5
  rcases bcases (!rv_9) with hbv_7 | hbv_7
  ·skip
   replace ht_6 := cond_t ht_6 hbv_7
   obtain rfl := some_inj ht_6
   replace ht_7 := cond_t ht_7 rfl
   obtain rfl := some_inj ht_7
   refine stepV (i := 0) rfl hF (fun w hS => Y.move hF rfl) rfl fun a hF => stepV (i := 1) rfl hF (fun w hS => Y.neq hF rfl rfl) rfl fun a hF => stepV (i := 2) rfl hF (fun w hS => Y.move hF rfl) rfl fun a hF => stepV_on (i := 3) rfl hF rfl rfl hbv_1 (fun w hS => Y.move hF rfl) rfl fun a hF => stepV_on (i := 4) rfl hF rfl rfl hbv_1 (fun w hS => Y.neq hF rfl rfl) rfl fun a hF => stepV (i := 5) rfl hF (fun w hS => Y.pick_f hF rfl hbv_1 rfl) rfl fun a hF => stepV (i := 6) rfl hF (fun w hS => Y.move hF rfl) rfl fun a hF => stepV_on (i := 7) rfl hF rfl rfl hbv_2 (fun w hS => Y.move hF rfl) rfl fun a hF => stepV_on (i := 8) rfl hF rfl rfl hbv_2 (fun w hS => Y.neq hF rfl rfl) rfl fun a hF => stepV (i := 9) rfl hF (fun w hS => Y.pick_f hF rfl hbv_2 rfl) rfl fun a hF => stepV (i := 10) rfl hF (fun w hS => Y.move hF rfl) rfl fun a hF => stepV_on (i := 11) rfl hF rfl rfl hbv_3 (fun w hS => Y.move hF rfl) rfl fun a hF => stepV_on (i := 12) rfl hF rfl rfl hbv_3 (fun w hS => Y.neq hF rfl rfl) rfl fun a hF => stepV (i := 13) rfl hF (fun w hS => Y.pick_f hF rfl hbv_3 rfl) rfl fun a hF => stepV (i := 14) rfl hF (fun w hS => Y.move hF rfl) rfl fun a hF => stepV_on (i := 15) rfl hF rfl rfl hbv_4 (fun w hS => Y.move hF rfl) rfl fun a hF => stepV_on (i := 16) rfl hF rfl rfl hbv_4 (fun w hS => Y.not hF rfl) rfl fun a hF => stepV (i := 17) rfl hF (fun w hS => Y.pick_f hF rfl hbv_4 rfl) rfl fun a hF => stepV (i := 18) rfl hF (fun w hS => Y.move hF rfl) rfl fun a hF => stepV_on (i := 19) rfl hF rfl rfl hbv_5 (fun w hS => Y.move hF rfl) rfl fun a hF => stepV_on (i := 20) rfl hF rfl rfl hbv_5 (fun w hS => Y.fieldAddr fo_57_0 hF rfl) rfl fun a hF => stepV_on (i := 21) rfl hF rfl rfl hbv_5 (fun w hS => Y.load1L 2 sz_3 hF rfl hS rfl rfl) rfl fun a hF => oneV (i := 22) rfl ?_ trivial
   refine guard_on hF rfl rfl hbv_5 (O.callP (us := [.slice p_6 rv_5.1.length c_6, .int .i64 rv_3.2.1.Shown]) ca_39 hF hS (r0Find_ok hS.stab rv_5.1 rv_3.2.1.Shown hs_6 rv_8 hx_8) rfl rfl fun a w hF hS => nil (then_n ⟨hS.weak ⟨rfl, rfl, rfl, rfl, trivial⟩, ?_⟩))
   refine stepV_on (i := 23) rfl hF rfl rfl hbv_5 (fun w hS => Y.lss hF rfl rfl) rfl fun a hF => stepV (i := 24) rfl hF (fun w hS => Y.pick_f hF rfl hbv_5 rfl) rfl fun a hF => stepV (i := 25) rfl hF (fun w hS => Y.move hF rfl) rfl fun a hF => stepV_on (i := 26) rfl hF rfl rfl hbv_6 (fun w hS => Y.move hF rfl) rfl fun a hF => stepV_on (i := 27) rfl hF rfl rfl hbv_6 (fun w hS => Y.fieldAddr fo_25_0 hF rfl) rfl fun a hF => stepV_on (i := 28) rfl hF rfl rfl hbv_6 (fun w hS => Y.load1L 1 sz_3 hF rfl hS rfl rfl) rfl fun a hF => oneV (i := 29) rfl ?_ trivial
   refine guard_on hF rfl rfl hbv_6 (O.callP (us := [.slice p_6 rv_5.1.length c_6, .int .i64 l.Ring]) ca_40 hF hS (r0Climbs_ok hS.stab rv_5.1 l.Ring hs_6 rv_9 hx_9) rfl rfl fun a w hF hS => nil (then_n ⟨hS.weak ⟨rfl, rfl, rfl, rfl, trivial⟩, ?_⟩))
   refine stepV_on (i := 30) rfl hF rfl rfl hbv_6 (fun w hS => Y.not hF rfl) rfl fun a hF => stepV (i := 31) rfl hF (fun w hS => Y.pick_f hF rfl hbv_6 rfl) rfl fun a hF => stepV (i := 32) rfl hF (fun w hS => Y.move hF rfl) rfl fun a hF => stepV_off (i := 33) rfl hF rfl rfl hbv_7 rfl fun a hF => stepV_off (i := 34) rfl hF rfl rfl hbv_7 rfl fun a hF => oneV (i := 35) rfl ?_ trivial
   refine guard_off hF rfl rfl hbv_7 rfl fun a hF => nil (then_n ⟨hS.weak ⟨rfl, rfl, rfl, rfl, trivial⟩, ?_⟩)
   refine oneV (i := 36) rfl ?_ trivial
   refine guard_off hF rfl rfl hbv_7 rfl fun a hF => nil (then_n ⟨hS.weak ⟨rfl, rfl, rfl, rfl, trivial⟩, ?_⟩)
   refine stepV_off (i := 37) rfl hF rfl rfl hbv_7 rfl fun a hF => stepV (i := 38) rfl hF (fun w hS => Y.pick_t hF rfl hbv_7 rfl) rfl fun a hF => stepV (i := 39) rfl hF (fun w hS => Y.move hF rfl) rfl fun a hF => stepV_off (i := 40) rfl hF rfl rfl rfl rfl fun a hF => stepV_off (i := 42) rfl hF rfl rfl rfl rfl fun a hF => stepV_off (i := 43) rfl hF rfl rfl rfl rfl fun a hF => oneV (i := 41) rfl ?_ trivial
   refine guard_off hF rfl rfl rfl rfl fun a hF => nil (then_n ⟨hS.weak ⟨rfl, rfl, rfl, rfl, trivial⟩, ?_⟩)
   refine stepV_off (i := 44) rfl hF rfl rfl rfl rfl fun a hF => stepV (i := 45) rfl hF (fun w hS => Y.pick_t hF rfl rfl rfl) rfl fun a hF => toTailV ⟨hF.weak ⟨rfl, rfl, rfl, rfl, rfl, rfl, rfl, trivial⟩, hS.weak ⟨rfl, rfl, rfl, rfl, trivial⟩⟩
  replace ht_6 := cond_f ht_6 hbv_7
  obtain ⟨rv_10, hx_10, ht_6⟩ := bind_some ht_6
  obtain ⟨rv_11, hx_11, ht_6⟩ := bind_some ht_6
  obtain rfl := some_inj ht_6
  rcases bcases (!rv_11) with hbv_8 | hbv_8
  ·skip
   replace ht_7 := cond_t ht_7 hbv_8
   obtain rfl := some_inj ht_7
   refine stepV (i := 0) rfl hF (fun w hS => Y.move hF rfl) rfl fun a hF => stepV (i := 1) rfl hF (fun w hS => Y.neq hF rfl rfl) rfl fun a hF => stepV (i := 2) rfl hF (fun w hS => Y.move hF rfl) rfl fun a hF => stepV_on (i := 3) rfl hF rfl rfl hbv_1 (fun w hS => Y.move hF rfl) rfl fun a hF => stepV_on (i := 4) rfl hF rfl rfl hbv_1 (fun w hS => Y.neq hF rfl rfl) rfl fun a hF => stepV (i := 5) rfl hF (fun w hS => Y.pick_f hF rfl hbv_1 rfl) rfl fun a hF => stepV (i := 6) rfl hF (fun w hS => Y.move hF rfl) rfl fun a hF => stepV_on (i := 7) rfl hF rfl rfl hbv_2 (fun w hS => Y.move hF rfl) rfl fun a hF => stepV_on (i := 8) rfl hF rfl rfl hbv_2 (fun w hS => Y.neq hF rfl rfl) rfl fun a hF => stepV (i := 9) rfl hF (fun w hS => Y.pick_f hF rfl hbv_2 rfl) rfl fun a hF => stepV (i := 10) rfl hF (fun w hS => Y.move hF rfl) rfl fun a hF => stepV_on (i := 11) rfl hF rfl rfl hbv_3 (fun w hS => Y.move hF rfl) rfl fun a hF => stepV_on (i := 12) rfl hF rfl rfl hbv_3 (fun w hS => Y.neq hF rfl rfl) rfl fun a hF => stepV (i := 13) rfl hF (fun w hS => Y.pick_f hF rfl hbv_3 rfl) rfl fun a hF => stepV (i := 14) rfl hF (fun w hS => Y.move hF rfl) rfl fun a hF => stepV_on (i := 15) rfl hF rfl rfl hbv_4 (fun w hS => Y.move hF rfl) rfl fun a hF => stepV_on (i := 16) rfl hF rfl rfl hbv_4 (fun w hS => Y.not hF rfl) rfl fun a hF => stepV (i := 17) rfl hF (fun w hS => Y.pick_f hF rfl hbv_4 rfl) rfl fun a hF => stepV (i := 18) rfl hF (fun w hS => Y.move hF rfl) rfl fun a hF => stepV_on (i := 19) rfl hF rfl rfl hbv_5 (fun w hS => Y.move hF rfl) rfl fun a hF => stepV_on (i := 20) rfl hF rfl rfl hbv_5 (fun w hS => Y.fieldAddr fo_57_0 hF rfl) rfl fun a hF => stepV_on (i := 21) rfl hF rfl rfl hbv_5 (fun w hS => Y.load1L 2 sz_3 hF rfl hS rfl rfl) rfl fun a hF => oneV (i := 22) rfl ?_ trivial
   refine guard_on hF rfl rfl hbv_5 (O.callP (us := [.slice p_6 rv_5.1.length c_6, .int .i64 rv_3.2.1.Shown]) ca_39 hF hS (r0Find_ok hS.stab rv_5.1 rv_3.2.1.Shown hs_6 rv_8 hx_8) rfl rfl fun a w hF hS => nil (then_n ⟨hS.weak ⟨rfl, rfl, rfl, rfl, trivial⟩, ?_⟩))
   refine stepV_on (i := 23) rfl hF rfl rfl hbv_5 (fun w hS => Y.lss hF rfl rfl) rfl fun a hF => stepV (i := 24) rfl hF (fun w hS => Y.pick_f hF rfl hbv_5 rfl) rfl fun a hF => stepV (i := 25) rfl hF (fun w hS => Y.move hF rfl) rfl fun a hF => stepV_on (i := 26) rfl hF rfl rfl hbv_6 (fun w hS => Y.move hF rfl) rfl fun a hF => stepV_on (i := 27) rfl hF rfl rfl hbv_6 (fun w hS => Y.fieldAddr fo_25_0 hF rfl) rfl fun a hF => stepV_on (i := 28) rfl hF rfl rfl hbv_6 (fun w hS => Y.load1L 1 sz_3 hF rfl hS rfl rfl) rfl fun a hF => oneV (i := 29) rfl ?_ trivial
   refine guard_on hF rfl rfl hbv_6 (O.callP (us := [.slice p_6 rv_5.1.length c_6, .int .i64 l.Ring]) ca_40 hF hS (r0Climbs_ok hS.stab rv_5.1 l.Ring hs_6 rv_9 hx_9) rfl rfl fun a w hF hS => nil (then_n ⟨hS.weak ⟨rfl, rfl, rfl, rfl, trivial⟩, ?_⟩))
   refine stepV_on (i := 30) rfl hF rfl rfl hbv_6 (fun w hS => Y.not hF rfl) rfl fun a hF => stepV (i := 31) rfl hF (fun w hS => Y.pick_f hF rfl hbv_6 rfl) rfl fun a hF => stepV (i := 32) rfl hF (fun w hS => Y.move hF rfl) rfl fun a hF => stepV_on (i := 33) rfl hF rfl rfl hbv_7 (fun w hS => Y.loadNL 4 sz_33 hF rfl hS rfl rfl rfl) rfl fun a hF => stepV_on (i := 34) rfl hF rfl rfl hbv_7 (fun w hS => Y.move hF rfl) rfl fun a hF => oneV (i := 35) rfl ?_ trivial
   refine guard_on hF rfl rfl hbv_7 (O.callP (us := [.slice p_3 rv_3.1.length c_3]) ca_27 hF hS (w7lostIn_ok hS.stab rv_3.1 hs_3 rv_10 hx_10) rfl rfl fun a w hF hS => nil (then_n ⟨hS.weak ⟨rfl, rfl, rfl, rfl, trivial⟩, ?_⟩))
   refine oneV (i := 36) rfl ?_ trivial
   refine guard_on hF rfl rfl hbv_7 (O.callP (us := [.agg #[.int .i64 rv_6.1.Low, .int .i64 rv_6.1.High], .int .i64 rv_10]) ca_41 hF hS (r0Has_ok hS.stab rv_6.1 rv_10 rv_11 hx_11) rfl rfl fun a w hF hS => nil (then_n ⟨hS.weak ⟨rfl, rfl, rfl, rfl, trivial⟩, ?_⟩))
   refine stepV_on (i := 37) rfl hF rfl rfl hbv_7 (fun w hS => Y.not hF rfl) rfl fun a hF => stepV (i := 38) rfl hF (fun w hS => Y.pick_f hF rfl hbv_7 rfl) rfl fun a hF => stepV (i := 39) rfl hF (fun w hS => Y.move hF rfl) rfl fun a hF => stepV_off (i := 40) rfl hF rfl rfl hbv_8 rfl fun a hF => stepV_off (i := 42) rfl hF rfl rfl hbv_8 rfl fun a hF => stepV_off (i := 43) rfl hF rfl rfl hbv_8 rfl fun a hF => oneV (i := 41) rfl ?_ trivial
   refine guard_off hF rfl rfl hbv_8 rfl fun a hF => nil (then_n ⟨hS.weak ⟨rfl, rfl, rfl, rfl, trivial⟩, ?_⟩)
   refine stepV_off (i := 44) rfl hF rfl rfl hbv_8 rfl fun a hF => stepV (i := 45) rfl hF (fun w hS => Y.pick_t hF rfl hbv_8 rfl) rfl fun a hF => toTailV ⟨hF.weak ⟨rfl, rfl, rfl, rfl, rfl, rfl, rfl, trivial⟩, hS.weak ⟨rfl, rfl, rfl, rfl, trivial⟩⟩
  replace ht_7 := cond_f ht_7 hbv_8
  obtain ⟨rv_12, hx_12, ht_7⟩ := bind_some ht_7
  obtain rfl := some_inj ht_7
  refine stepV (i := 0) rfl hF (fun w hS => Y.move hF rfl) rfl fun a hF => stepV (i := 1) rfl hF (fun w hS => Y.neq hF rfl rfl) rfl fun a hF => stepV (i := 2) rfl hF (fun w hS => Y.move hF rfl) rfl fun a hF => stepV_on (i := 3) rfl hF rfl rfl hbv_1 (fun w hS => Y.move hF rfl) rfl fun a hF => stepV_on (i := 4) rfl hF rfl rfl hbv_1 (fun w hS => Y.neq hF rfl rfl) rfl fun a hF => stepV (i := 5) rfl hF (fun w hS => Y.pick_f hF rfl hbv_1 rfl) rfl fun a hF => stepV (i := 6) rfl hF (fun w hS => Y.move hF rfl) rfl fun a hF => stepV_on (i := 7) rfl hF rfl rfl hbv_2 (fun w hS => Y.move hF rfl) rfl fun a hF => stepV_on (i := 8) rfl hF rfl rfl hbv_2 (fun w hS => Y.neq hF rfl rfl) rfl fun a hF => stepV (i := 9) rfl hF (fun w hS => Y.pick_f hF rfl hbv_2 rfl) rfl fun a hF => stepV (i := 10) rfl hF (fun w hS => Y.move hF rfl) rfl fun a hF => stepV_on (i := 11) rfl hF rfl rfl hbv_3 (fun w hS => Y.move hF rfl) rfl fun a hF => stepV_on (i := 12) rfl hF rfl rfl hbv_3 (fun w hS => Y.neq hF rfl rfl) rfl fun a hF => stepV (i := 13) rfl hF (fun w hS => Y.pick_f hF rfl hbv_3 rfl) rfl fun a hF => stepV (i := 14) rfl hF (fun w hS => Y.move hF rfl) rfl fun a hF => stepV_on (i := 15) rfl hF rfl rfl hbv_4 (fun w hS => Y.move hF rfl) rfl fun a hF => stepV_on (i := 16) rfl hF rfl rfl hbv_4 (fun w hS => Y.not hF rfl) rfl fun a hF => stepV (i := 17) rfl hF (fun w hS => Y.pick_f hF rfl hbv_4 rfl) rfl fun a hF => stepV (i := 18) rfl hF (fun w hS => Y.move hF rfl) rfl fun a hF => stepV_on (i := 19) rfl hF rfl rfl hbv_5 (fun w hS => Y.move hF rfl) rfl fun a hF => stepV_on (i := 20) rfl hF rfl rfl hbv_5 (fun w hS => Y.fieldAddr fo_57_0 hF rfl) rfl fun a hF => stepV_on (i := 21) rfl hF rfl rfl hbv_5 (fun w hS => Y.load1L 2 sz_3 hF rfl hS rfl rfl) rfl fun a hF => oneV (i := 22) rfl ?_ trivial
  refine guard_on hF rfl rfl hbv_5 (O.callP (us := [.slice p_6 rv_5.1.length c_6, .int .i64 rv_3.2.1.Shown]) ca_39 hF hS (r0Find_ok hS.stab rv_5.1 rv_3.2.1.Shown hs_6 rv_8 hx_8) rfl rfl fun a w hF hS => nil (then_n ⟨hS.weak ⟨rfl, rfl, rfl, rfl, trivial⟩, ?_⟩))
  refine stepV_on (i := 23) rfl hF rfl rfl hbv_5 (fun w hS => Y.lss hF rfl rfl) rfl fun a hF => stepV (i := 24) rfl hF (fun w hS => Y.pick_f hF rfl hbv_5 rfl) rfl fun a hF => stepV (i := 25) rfl hF (fun w hS => Y.move hF rfl) rfl fun a hF => stepV_on (i := 26) rfl hF rfl rfl hbv_6 (fun w hS => Y.move hF rfl) rfl fun a hF => stepV_on (i := 27) rfl hF rfl rfl hbv_6 (fun w hS => Y.fieldAddr fo_25_0 hF rfl) rfl fun a hF => stepV_on (i := 28) rfl hF rfl rfl hbv_6 (fun w hS => Y.load1L 1 sz_3 hF rfl hS rfl rfl) rfl fun a hF => oneV (i := 29) rfl ?_ trivial
  refine guard_on hF rfl rfl hbv_6 (O.callP (us := [.slice p_6 rv_5.1.length c_6, .int .i64 l.Ring]) ca_40 hF hS (r0Climbs_ok hS.stab rv_5.1 l.Ring hs_6 rv_9 hx_9) rfl rfl fun a w hF hS => nil (then_n ⟨hS.weak ⟨rfl, rfl, rfl, rfl, trivial⟩, ?_⟩))
  refine stepV_on (i := 30) rfl hF rfl rfl hbv_6 (fun w hS => Y.not hF rfl) rfl fun a hF => stepV (i := 31) rfl hF (fun w hS => Y.pick_f hF rfl hbv_6 rfl) rfl fun a hF => stepV (i := 32) rfl hF (fun w hS => Y.move hF rfl) rfl fun a hF => stepV_on (i := 33) rfl hF rfl rfl hbv_7 (fun w hS => Y.loadNL 4 sz_33 hF rfl hS rfl rfl rfl) rfl fun a hF => stepV_on (i := 34) rfl hF rfl rfl hbv_7 (fun w hS => Y.move hF rfl) rfl fun a hF => oneV (i := 35) rfl ?_ trivial
  refine guard_on hF rfl rfl hbv_7 (O.callP (us := [.slice p_3 rv_3.1.length c_3]) ca_27 hF hS (w7lostIn_ok hS.stab rv_3.1 hs_3 rv_10 hx_10) rfl rfl fun a w hF hS => nil (then_n ⟨hS.weak ⟨rfl, rfl, rfl, rfl, trivial⟩, ?_⟩))
  refine oneV (i := 36) rfl ?_ trivial
  refine guard_on hF rfl rfl hbv_7 (O.callP (us := [.agg #[.int .i64 rv_6.1.Low, .int .i64 rv_6.1.High], .int .i64 rv_10]) ca_41 hF hS (r0Has_ok hS.stab rv_6.1 rv_10 rv_11 hx_11) rfl rfl fun a w hF hS => nil (then_n ⟨hS.weak ⟨rfl, rfl, rfl, rfl, trivial⟩, ?_⟩))
  refine stepV_on (i := 37) rfl hF rfl rfl hbv_7 (fun w hS => Y.not hF rfl) rfl fun a hF => stepV (i := 38) rfl hF (fun w hS => Y.pick_f hF rfl hbv_7 rfl) rfl fun a hF => stepV (i := 39) rfl hF (fun w hS => Y.move hF rfl) rfl fun a hF => stepV_on (i := 40) rfl hF rfl rfl hbv_8 (fun w hS => Y.move hF rfl) rfl fun a hF => stepV_on (i := 42) rfl hF rfl rfl hbv_8 (fun w hS => Y.fieldAddr fo_33_0 hF rfl) rfl fun a hF => stepV_on (i := 43) rfl hF rfl rfl hbv_8 (fun w hS => Y.load1L 4 sz_3 hF rfl hS rfl rfl) rfl fun a hF => oneV (i := 41) rfl ?_ trivial
  refine guard_on hF rfl rfl hbv_8 (O.callP (us := [.slice p_7 rv_7.1.length c_7]) ca_27 hF hS (w7lostIn_ok hS.stab rv_7.1 hs_7 rv_12 hx_12) rfl rfl fun a w hF hS => nil (then_n ⟨hS.weak ⟨rfl, rfl, rfl, rfl, trivial⟩, ?_⟩))
  refine stepV_on (i := 44) rfl hF rfl rfl hbv_8 (fun w hS => Y.neq hF rfl rfl) rfl fun a hF => stepV (i := 45) rfl hF (fun w hS => Y.pick_f hF rfl hbv_8 rfl) rfl fun a hF => toTailV ⟨hF.weak ⟨rfl, rfl, rfl, rfl, rfl, rfl, rfl, trivial⟩, hS.weak ⟨rfl, rfl, rfl, rfl, trivial⟩⟩
 rintro a w ⟨hF, hS⟩
 refine nil (then_n (cond_b hF rfl (fun hbv_9 => ?_) (fun hbv_9 => ?_)))
 ·replace h := ncond_t h hbv_9
  refine seq (region (step hF (Y.assign hF rfl) rfl fun a hF => nil (then_n (ret_ (then_r (leavePN _ (nret h) Tryd.results7 hF hS (.cons (.tmp rfl) .nil) .nil rfl))))))
 replace h := ncond_f h hbv_9
 refine skip_ (then_n (seq (region (step hF (Y.loadNL 3 sz_25 hF rfl hS rfl rfl rfl) rfl fun a hF => step hF (Y.move hF rfl) rfl fun a hF => step hF (Y.move hF rfl) rfl fun a hF => ?_))))
 obtain ⟨rv_13, hx_13, h⟩ := ndet h
 refine O.callP (us := [.agg #[.int .i64 rv_3.2.2.Ring, .slice p_4 rv_3.2.2.Starts.length c_4, .slice p_5 rv_3.2.2.Events.length c_5], .int .i64 rv_2, .slice p_7 rv_7.1.length c_7]) ca_24 hF hS (slave_IsStory_ok hS.stab rv_3.2.2 rv_2 rv_7.1 hs_4 hs_5 hs_7 hG rv_13 hx_13) rfl rfl fun a w hF hS => step hF (Y.move hF rfl) rfl fun a hF => step hF (Y.extract hF rfl rfl) rfl fun a hF => step hF (Y.extract hF rfl rfl) rfl fun a hF => step hF (Y.assign hF rfl) rfl fun a hF => step hF (Y.assign hF rfl) rfl fun a hF => nil (then_n (seq (region (step hF (Y.move hF rfl) rfl fun a hF => step hF (Y.eql hF rfl rfl) rfl fun a hF => step hF (Y.move hF rfl) rfl fun a hF => join (N := 122) (rs := []) (w0 := w0) (D0 := D0) 2 (us := [(6, .bool false), (118, .bool ((rv_13.2 == 0) && rv_13.1))]) (ms := [(1, .cells b [.int .i64 l.Ring, .slice p l.Starts.length c, .slice p_1 l.Events.length c_1] 25), (2, .cells b_1 [.int .i64 rv_3.2.1.Shown, .int .i64 rv_3.2.1.Last] 57), (3, .cells b_2 [.int .i64 rv_3.2.2.Ring, .slice p_4 rv_3.2.2.Starts.length c_4, .slice p_5 rv_3.2.2.Events.length c_5] 25), (4, .cells b_3 [.int .i64 rv_6.1.Low, .int .i64 rv_6.1.High] 33)]) (D' := Dv_2) ?_ ?_))))
 ·rcases bcases (rv_13.2 == 0) with hbv_10 | hbv_10
  ·skip
   refine guard_on hF rfl rfl hbv_10 (step hF (Y.move hF rfl) rfl fun a hF => step hF (Y.pick_t hF rfl hbv_10 rfl) rfl fun a hF => nil (then_n ⟨hF.weak ⟨rfl, (by rw [hbv_10]; rfl), trivial⟩, hS.weak ⟨rfl, rfl, rfl, rfl, trivial⟩⟩))
  refine guard_off hF rfl rfl hbv_10 rfl fun a hF => step hF (Y.pick_f hF rfl hbv_10 rfl) rfl fun a hF => nil (then_n ⟨hF.weak ⟨rfl, (by rw [hbv_10]; rfl), trivial⟩, hS.weak ⟨rfl, rfl, rfl, rfl, trivial⟩⟩)
 intro a w hF hS
 refine step hF (Y.move hF rfl) rfl fun a hF => ?_
 obtain ⟨KQ_5, ht_8, hk_5⟩ := nbnd_ex h
 refine list_cut 2 (fun a w => ∃ (t_8 : Bool) (D : Stab), Dv_2.le D ∧ Frm 122 [] [(6, .bool false), (121, .bool t_8)] a ∧ St w0 D0 D [(1, .cells b [.int .i64 l.Ring, .slice p l.Starts.length c, .slice p_1 l.Events.length c_1] 25), (2, .cells b_1 [.int .i64 rv_3.2.1.Shown, .int .i64 rv_3.2.1.Last] 57), (3, .cells b_2 [.int .i64 rv_3.2.2.Ring, .slice p_4 rv_3.2.2.Starts.length c_4, .slice p_5 rv_3.2.2.Events.length c_5] 25), (4, .cells b_3 [.int .i64 rv_6.1.Low, .int .i64 rv_6.1.High] 33)] w ∧ KQ_5 t_8) ?_ ?_
 ·rcases bcases ((rv_13.2 == 0) && rv_13.1) with hbv_11 | hbv_11
  ·skip
   replace h := ncond_t ht_8 hbv_11
   refine guard_on hF rfl rfl hbv_11 ?_
   obtain ⟨KQ_4, hx_14, hk_4⟩ := nbnd_ex h
   refine O.callPN (us := []) ca_23 hF hS (w7works_ok hS.stab hG KQ_4 hx_14) rfl rfl fun rv_15 h a w hF hS => ?_
   replace h := hk_4 _ h
   refine step hF (Y.pick_t hF rfl hbv_11 rfl) rfl fun a hF => nil (then_n ⟨_, Dv_2, Stab.le.refl _, hF.weak ⟨rfl, rfl, trivial⟩, hS.weak ⟨rfl, rfl, rfl, rfl, trivial⟩, nret h⟩)
  replace h := ncond_f ht_8 hbv_11
  refine guard_off hF rfl rfl hbv_11 rfl fun a hF => step hF (Y.pick_f hF rfl hbv_11 rfl) rfl fun a hF => nil (then_n ⟨_, Dv_2, Stab.le.refl _, hF.weak ⟨rfl, rfl, trivial⟩, hS.weak ⟨rfl, rfl, rfl, rfl, trivial⟩, nret h⟩)
 rintro a w ⟨t_8, Dv_3, hlev_3, hF, hS, h⟩
 replace h := hk_5 _ h
 refine step hF (Y.assign hF rfl) rfl fun a hF => nil (then_n (ret_ (leavePN _ (nret h) Tryd.results7 hF hS (.cons (.tmp rfl) .nil) .nil rfl)))
end Go.Proofs.YtmbgmefmkjeahaaDoor.Rt
