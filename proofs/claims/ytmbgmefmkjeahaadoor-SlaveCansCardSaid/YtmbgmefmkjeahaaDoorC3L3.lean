/- Walks of the functions of this seat: what each Go function comes to, as a Lean function, and the proof. A law. Under no conditions. -/
import Derived.Test.YtmbgmefmkjeahaaDoorC3WRZ
import Derived.Test.YtmbgmefmkjeahaaDoorC3WSZ
set_option linter.unusedVariables false
set_option linter.unusedSimpArgs false
set_option maxRecDepth 100000
set_option maxHeartbeats 4000000
namespace Go.Proofs.YtmbgmefmkjeahaaDoor.Rt
open Go Go.RowKit
noncomputable def remontoirlaw07_SlaveCans (l : SlaveLine) (who : Int) : ND Bool :=
  (ND.bnd (slave_Can l who) fun rv =>
  (ND.det (remontoirref07_Can l who) fun rv_1 =>
  (ND.det (remontoirref00_Alike rv.1 rv_1.1) fun rv_2 =>
  (ND.det (cond (!rv_2) (some true) (some (rv.2 != rv_1.2))) fun t =>
  (ND.det (cond t (some true) ((slave_Check l).bind fun rv_3 =>
  (remontoirref07_Check l).bind fun rv_4 =>
  some (rv_3 != rv_4))) fun t_1 =>
  cond t_1
  (ND.ret false)
  ((ND.bnd (slave_Lost l who) fun rv_5 =>
  (ND.det (remontoirref07_Lost l who) fun rv_6 =>
  (ND.bnd (cond (([rv_5.1.Low, rv_5.1.High] == [rv_6.1.Low, rv_6.1.High]) && (rv_5.2 == rv_6.2)) ((ND.bnd (remontoirlaw07_works) fun rv_8 =>
  ND.ret rv_8)) (ND.ret false)) fun t_2 =>
  ND.ret t_2)))))))))
theorem remontoirlaw07_SlaveCans_ok {w0 : World} {D0 : Stab} (hD : D0.on w0) (l : SlaveLine) (who : Int) {p : Option Addr} {c : Nat} {p_1 : Option Addr} {c_1 : Nat} (hs : SRc C_SlaveStart D0 l.Starts p c) (hs_1 : SRc C_SlaveEvent D0 l.Events p_1 c_1) (hG : Glob D0) (out : Bool → Prop) (h : remontoirlaw07_SlaveCans l who out) : Calls Tryd.prog 3 [.agg #[.int .i64 l.Ring, .slice p l.Starts.length c, .slice p_1 l.Events.length c_1], .int .i64 who].toArray w0 (RetPN D0 w0 out fun (out : Bool) => .bool out) := by
 refine enter _ 62 Tryd.func3 rfl Tryd.ntmps3 rfl fun a hF => ?_
 replace hF : Frm 62 [] [(0, .agg #[.int .i64 l.Ring, .slice p l.Starts.length c, .slice p_1 l.Events.length c_1]), (1, .int .i64 who)] a := hF
 have hS := St.start hD
 unfold remontoirlaw07_SlaveCans at h
 refine seq (region (O.box (cs := [.int .i64 l.Ring, .slice p l.Starts.length c, .slice p_1 l.Events.length c_1]) 1 hF rfl rfl hS rfl fun b a w hF hS => step hF (Y.assign hF rfl) rfl fun a hF => nil (then_n (seq (region (step hF (Y.loadNL 1 sz_25 hF rfl hS rfl rfl rfl) rfl fun a hF => step hF (Y.move hF rfl) rfl fun a hF => ?_))))))
 obtain ⟨KQ, hx, hk⟩ := nbnd_ex h
 refine O.callSN (us := [.agg #[.int .i64 l.Ring, .slice p l.Starts.length c, .slice p_1 l.Events.length c_1], .int .i64 who]) ca_16 hF hS (slave_Can_ok hS.stab l who hs hs_1 hG KQ hx) rfl rfl fun rv h v Dv a w hR hlev hF hS => ?_
 replace h := hk _ h
 replace hs := hs.mono hlev
 replace hs_1 := hs_1.mono hlev
 replace hG := hG.mono hlev
 obtain ⟨p_2, c_2, rfl, hs_2⟩ := hR
 refine step hF (Y.move hF rfl) rfl fun a hF => step hF (Y.extract hF rfl rfl) rfl fun a hF => step hF (Y.extract hF rfl rfl) rfl fun a hF => step hF (Y.assign hF rfl) rfl fun a hF => step hF (Y.assign hF rfl) rfl fun a hF => nil (then_n (seq (region (step hF (Y.loadNL 1 sz_25 hF rfl hS rfl rfl rfl) rfl fun a hF => step hF (Y.move hF rfl) rfl fun a hF => ?_))))
 obtain ⟨rv_1, hx_1, h⟩ := ndet h
 refine O.callS (us := [.agg #[.int .i64 l.Ring, .slice p l.Starts.length c, .slice p_1 l.Events.length c_1], .int .i64 who]) ca_17 hF hS (remontoirref07_Can_ok hS.stab l who hs hs_1 rv_1 hx_1) rfl rfl fun v_1 Dv_1 a w hR_1 hlev_1 hF hS => ?_
 replace hs := hs.mono hlev_1
 replace hs_1 := hs_1.mono hlev_1
 replace hG := hG.mono hlev_1
 replace hs_2 := hs_2.mono hlev_1
 obtain ⟨p_3, c_3, rfl, hs_3⟩ := hR_1
 refine step hF (Y.move hF rfl) rfl fun a hF => step hF (Y.extract hF rfl rfl) rfl fun a hF => step hF (Y.extract hF rfl rfl) rfl fun a hF => step hF (Y.assign hF rfl) rfl fun a hF => step hF (Y.assign hF rfl) rfl fun a hF => nil (then_n (seq (seq ?_)))
 obtain ⟨rv_2, hx_2, h⟩ := ndet h
 obtain ⟨t, ht, h⟩ := ndet h
 obtain ⟨t_1, ht_1, h⟩ := ndet h
 refine drawsV 16 (.flt 0 (.flt 1 (.alt 2 (.flt 3 (.flt 4 (.flt 5 (.flt 6 (.flt 7 (.flt 8 (.flt 9 (.flt 10 (.flt 12 (.alt 11 (.alt 13 (.flt 14 (.flt 15 .done)) .stop) .stop)))))))))) .stop))) mixed_ (by kernel_rfl) (fun w => St w0 D0 Dv_1 [(1, .cells b [.int .i64 l.Ring, .slice p l.Starts.length c, .slice p_1 l.Events.length c_1] 25)] w) (fun a w => Frm 62 [] [(1, .int .i64 who), (2, .pointer (some ⟨b, 0, none⟩)), (4, .bool false), (6, .int .i64 rv.2), (8, .int .i64 rv_1.2), (38, .bool t_1)] a ∧ St w0 D0 Dv_1 [(1, .cells b [.int .i64 l.Ring, .slice p l.Starts.length c, .slice p_1 l.Events.length c_1] 25)] w) (hS.weak (ms := [(1, .cells b [.int .i64 l.Ring, .slice p l.Starts.length c, .slice p_1 l.Events.length c_1] 25)]) ⟨rfl, trivial⟩).drew (fun _ _ _ _ h => h) ?_ ?_
 ·replace hS := hS.drew
  have hle0 := hS.le
  rcases bcases (!rv_2) with hbv | hbv
  ·skip
   replace ht := cond_t ht hbv
   obtain rfl := some_inj ht
   replace ht_1 := cond_t ht_1 rfl
   obtain rfl := some_inj ht_1
   refine stepV (i := 0) rfl hF (fun w hS => Y.move hF rfl) rfl fun a hF => stepV (i := 1) rfl hF (fun w hS => Y.move hF rfl) rfl fun a hF => oneV (i := 2) rfl ?_ trivial
   refine O.callP (us := [.slice p_2 rv.1.length c_2, .slice p_3 rv_1.1.length c_3]) ca_18 hF hS (remontoirref00_Alike_ok hS.stab rv.1 rv_1.1 hs_2 hs_3 rv_2 hx_2) rfl rfl fun a w hF hS => nil (then_n ⟨hS.weak ⟨rfl, trivial⟩, ?_⟩)
   refine stepV (i := 3) rfl hF (fun w hS => Y.not hF rfl) rfl fun a hF => stepV (i := 4) rfl hF (fun w hS => Y.move hF rfl) rfl fun a hF => stepV_off (i := 5) rfl hF rfl rfl hbv rfl fun a hF => stepV_off (i := 6) rfl hF rfl rfl hbv rfl fun a hF => stepV_off (i := 7) rfl hF rfl rfl hbv rfl fun a hF => stepV (i := 8) rfl hF (fun w hS => Y.pick_t hF rfl hbv rfl) rfl fun a hF => stepV (i := 9) rfl hF (fun w hS => Y.move hF rfl) rfl fun a hF => stepV_off (i := 10) rfl hF rfl rfl rfl rfl fun a hF => stepV_off (i := 12) rfl hF rfl rfl rfl rfl fun a hF => oneV (i := 11) rfl ?_ trivial
   refine guard_off hF rfl rfl rfl rfl fun a hF => nil (then_n ⟨hS.weak ⟨rfl, trivial⟩, ?_⟩)
   refine oneV (i := 13) rfl ?_ trivial
   refine guard_off hF rfl rfl rfl rfl fun a hF => nil (then_n ⟨hS.weak ⟨rfl, trivial⟩, ?_⟩)
   refine stepV_off (i := 14) rfl hF rfl rfl rfl rfl fun a hF => stepV (i := 15) rfl hF (fun w hS => Y.pick_t hF rfl rfl rfl) rfl fun a hF => toTailV ⟨hF.weak ⟨rfl, rfl, rfl, rfl, rfl, rfl, trivial⟩, hS.weak ⟨rfl, trivial⟩⟩
  replace ht := cond_f ht hbv
  obtain rfl := some_inj ht
  rcases bcases (rv.2 != rv_1.2) with hbv_1 | hbv_1
  ·skip
   replace ht_1 := cond_t ht_1 hbv_1
   obtain rfl := some_inj ht_1
   refine stepV (i := 0) rfl hF (fun w hS => Y.move hF rfl) rfl fun a hF => stepV (i := 1) rfl hF (fun w hS => Y.move hF rfl) rfl fun a hF => oneV (i := 2) rfl ?_ trivial
   refine O.callP (us := [.slice p_2 rv.1.length c_2, .slice p_3 rv_1.1.length c_3]) ca_18 hF hS (remontoirref00_Alike_ok hS.stab rv.1 rv_1.1 hs_2 hs_3 rv_2 hx_2) rfl rfl fun a w hF hS => nil (then_n ⟨hS.weak ⟨rfl, trivial⟩, ?_⟩)
   refine stepV (i := 3) rfl hF (fun w hS => Y.not hF rfl) rfl fun a hF => stepV (i := 4) rfl hF (fun w hS => Y.move hF rfl) rfl fun a hF => stepV_on (i := 5) rfl hF rfl rfl hbv (fun w hS => Y.move hF rfl) rfl fun a hF => stepV_on (i := 6) rfl hF rfl rfl hbv (fun w hS => Y.move hF rfl) rfl fun a hF => stepV_on (i := 7) rfl hF rfl rfl hbv (fun w hS => Y.neq hF rfl rfl) rfl fun a hF => stepV (i := 8) rfl hF (fun w hS => Y.pick_f hF rfl hbv rfl) rfl fun a hF => stepV (i := 9) rfl hF (fun w hS => Y.move hF rfl) rfl fun a hF => stepV_off (i := 10) rfl hF rfl rfl hbv_1 rfl fun a hF => stepV_off (i := 12) rfl hF rfl rfl hbv_1 rfl fun a hF => oneV (i := 11) rfl ?_ trivial
   refine guard_off hF rfl rfl hbv_1 rfl fun a hF => nil (then_n ⟨hS.weak ⟨rfl, trivial⟩, ?_⟩)
   refine oneV (i := 13) rfl ?_ trivial
   refine guard_off hF rfl rfl hbv_1 rfl fun a hF => nil (then_n ⟨hS.weak ⟨rfl, trivial⟩, ?_⟩)
   refine stepV_off (i := 14) rfl hF rfl rfl hbv_1 rfl fun a hF => stepV (i := 15) rfl hF (fun w hS => Y.pick_t hF rfl hbv_1 rfl) rfl fun a hF => toTailV ⟨hF.weak ⟨rfl, rfl, rfl, rfl, rfl, rfl, trivial⟩, hS.weak ⟨rfl, trivial⟩⟩
  replace ht_1 := cond_f ht_1 hbv_1
  obtain ⟨rv_3, hx_3, ht_1⟩ := bind_some ht_1
  obtain ⟨rv_4, hx_4, ht_1⟩ := bind_some ht_1
  obtain rfl := some_inj ht_1
  refine stepV (i := 0) rfl hF (fun w hS => Y.move hF rfl) rfl fun a hF => stepV (i := 1) rfl hF (fun w hS => Y.move hF rfl) rfl fun a hF => oneV (i := 2) rfl ?_ trivial
  refine O.callP (us := [.slice p_2 rv.1.length c_2, .slice p_3 rv_1.1.length c_3]) ca_18 hF hS (remontoirref00_Alike_ok hS.stab rv.1 rv_1.1 hs_2 hs_3 rv_2 hx_2) rfl rfl fun a w hF hS => nil (then_n ⟨hS.weak ⟨rfl, trivial⟩, ?_⟩)
  refine stepV (i := 3) rfl hF (fun w hS => Y.not hF rfl) rfl fun a hF => stepV (i := 4) rfl hF (fun w hS => Y.move hF rfl) rfl fun a hF => stepV_on (i := 5) rfl hF rfl rfl hbv (fun w hS => Y.move hF rfl) rfl fun a hF => stepV_on (i := 6) rfl hF rfl rfl hbv (fun w hS => Y.move hF rfl) rfl fun a hF => stepV_on (i := 7) rfl hF rfl rfl hbv (fun w hS => Y.neq hF rfl rfl) rfl fun a hF => stepV (i := 8) rfl hF (fun w hS => Y.pick_f hF rfl hbv rfl) rfl fun a hF => stepV (i := 9) rfl hF (fun w hS => Y.move hF rfl) rfl fun a hF => stepV_on (i := 10) rfl hF rfl rfl hbv_1 (fun w hS => Y.loadNL 1 sz_25 hF rfl hS rfl rfl rfl) rfl fun a hF => stepV_on (i := 12) rfl hF rfl rfl hbv_1 (fun w hS => Y.loadNL 1 sz_25 hF rfl hS rfl rfl rfl) rfl fun a hF => oneV (i := 11) rfl ?_ trivial
  refine guard_on hF rfl rfl hbv_1 (O.callP (us := [.agg #[.int .i64 l.Ring, .slice p l.Starts.length c, .slice p_1 l.Events.length c_1]]) ca_19 hF hS (slave_Check_ok hS.stab l hs hs_1 rv_3 hx_3) rfl rfl fun a w hF hS => nil (then_n ⟨hS.weak ⟨rfl, trivial⟩, ?_⟩))
  refine oneV (i := 13) rfl ?_ trivial
  refine guard_on hF rfl rfl hbv_1 (O.callP (us := [.agg #[.int .i64 l.Ring, .slice p l.Starts.length c, .slice p_1 l.Events.length c_1]]) ca_20 hF hS (remontoirref07_Check_ok hS.stab l hs hs_1 rv_4 hx_4) rfl rfl fun a w hF hS => nil (then_n ⟨hS.weak ⟨rfl, trivial⟩, ?_⟩))
  refine stepV_on (i := 14) rfl hF rfl rfl hbv_1 (fun w hS => Y.neq hF rfl rfl) rfl fun a hF => stepV (i := 15) rfl hF (fun w hS => Y.pick_f hF rfl hbv_1 rfl) rfl fun a hF => toTailV ⟨hF.weak ⟨rfl, rfl, rfl, rfl, rfl, rfl, trivial⟩, hS.weak ⟨rfl, trivial⟩⟩
 rintro a w ⟨hF, hS⟩
 refine nil (then_n (cond_b hF rfl (fun hbv_2 => ?_) (fun hbv_2 => ?_)))
 ·replace h := ncond_t h hbv_2
  refine seq (region (step hF (Y.assign hF rfl) rfl fun a hF => nil (then_n (ret_ (then_r (leavePN _ (nret h) Tryd.results3 hF hS (.cons (.tmp rfl) .nil) .nil rfl))))))
 replace h := ncond_f h hbv_2
 refine skip_ (then_n (seq (region (step hF (Y.loadNL 1 sz_25 hF rfl hS rfl rfl rfl) rfl fun a hF => step hF (Y.move hF rfl) rfl fun a hF => ?_))))
 obtain ⟨KQ_1, hx_5, hk_1⟩ := nbnd_ex h
 refine O.callPN (us := [.agg #[.int .i64 l.Ring, .slice p l.Starts.length c, .slice p_1 l.Events.length c_1], .int .i64 who]) ca_21 hF hS (slave_Lost_ok hS.stab l who hs hs_1 hG KQ_1 hx_5) rfl rfl fun rv_5 h a w hF hS => ?_
 replace h := hk_1 _ h
 refine step hF (Y.move hF rfl) rfl fun a hF => step hF (Y.extract hF rfl rfl) rfl fun a hF => step hF (Y.extract hF rfl rfl) rfl fun a hF => O.alloc 2 zc_33 hF hS rfl fun b_1 a w hF hS => O.store (us := [.int .i64 rv_5.1.Low, .int .i64 rv_5.1.High]) 2 sz_33 hF rfl rfl rfl rfl hS rfl rfl fun a w hF hS => step hF (Y.assign hF rfl) rfl fun a hF => nil (then_n (seq (region (step hF (Y.loadNL 1 sz_25 hF rfl hS rfl rfl rfl) rfl fun a hF => step hF (Y.move hF rfl) rfl fun a hF => ?_))))
 obtain ⟨rv_6, hx_6, h⟩ := ndet h
 refine O.callP (us := [.agg #[.int .i64 l.Ring, .slice p l.Starts.length c, .slice p_1 l.Events.length c_1], .int .i64 who]) ca_22 hF hS (remontoirref07_Lost_ok hS.stab l who hs hs_1 rv_6 hx_6) rfl rfl fun a w hF hS => step hF (Y.move hF rfl) rfl fun a hF => step hF (Y.extract hF rfl rfl) rfl fun a hF => step hF (Y.extract hF rfl rfl) rfl fun a hF => O.alloc 3 zc_33 hF hS rfl fun b_2 a w hF hS => O.store (us := [.int .i64 rv_6.1.Low, .int .i64 rv_6.1.High]) 3 sz_33 hF rfl rfl rfl rfl hS rfl rfl fun a w hF hS => step hF (Y.assign hF rfl) rfl fun a hF => nil (then_n (seq (region (step hF (Y.loadNL 2 sz_33 hF rfl hS rfl rfl rfl) rfl fun a hF => step hF (Y.loadNL 3 sz_33 hF rfl hS rfl rfl rfl) rfl fun a hF => step hF (Y.eqst (fun w => eqT_33.equal (by decide) (l := [rv_5.1.Low, rv_5.1.High]) (m := [rv_6.1.Low, rv_6.1.High]) rfl rfl) (fun w => run_eqGuard_agg _ _ _ _ _ _ _ eg_33) hF rfl rfl) rfl fun a hF => step hF (Y.move hF rfl) rfl fun a hF => join (N := 62) (rs := []) (w0 := w0) (D0 := D0) 4 (us := [(4, .bool false), (58, .bool (([rv_5.1.Low, rv_5.1.High] == [rv_6.1.Low, rv_6.1.High]) && (rv_5.2 == rv_6.2)))]) (ms := [(1, .cells b [.int .i64 l.Ring, .slice p l.Starts.length c, .slice p_1 l.Events.length c_1] 25), (2, .cells b_1 [.int .i64 rv_5.1.Low, .int .i64 rv_5.1.High] 33), (3, .cells b_2 [.int .i64 rv_6.1.Low, .int .i64 rv_6.1.High] 33)]) (D' := Dv_1) ?_ ?_))))
 ·rcases bcases ([rv_5.1.Low, rv_5.1.High] == [rv_6.1.Low, rv_6.1.High]) with hbv_3 | hbv_3
  ·-- true
   refine guard_on hF rfl rfl hbv_3 (step hF (Y.move hF rfl) rfl fun a hF => guard_on hF rfl rfl hbv_3 (step hF (Y.move hF rfl) rfl fun a hF => guard_on hF rfl rfl hbv_3 (step hF (Y.eql hF rfl rfl) rfl fun a hF => step hF (Y.pick_t hF rfl hbv_3 rfl) rfl fun a hF => nil (then_n ⟨hF.weak ⟨rfl, (by rw [hbv_3]; rfl), trivial⟩, hS.weak ⟨rfl, rfl, rfl, trivial⟩⟩))))
  -- false
  refine guard_off hF rfl rfl hbv_3 rfl fun a hF => guard_off hF rfl rfl hbv_3 rfl fun a hF => guard_off hF rfl rfl hbv_3 rfl fun a hF => step hF (Y.pick_f hF rfl hbv_3 rfl) rfl fun a hF => nil (then_n ⟨hF.weak ⟨rfl, (by rw [hbv_3]; rfl), trivial⟩, hS.weak ⟨rfl, rfl, rfl, trivial⟩⟩)
 intro a w hF hS
 refine step hF (Y.move hF rfl) rfl fun a hF => ?_
 obtain ⟨KQ_3, ht_2, hk_3⟩ := nbnd_ex h
 refine list_cut 2 (fun a w => ∃ (t_2 : Bool) (D : Stab), Dv_1.le D ∧ Frm 62 [] [(4, .bool false), (61, .bool t_2)] a ∧ St w0 D0 D [(1, .cells b [.int .i64 l.Ring, .slice p l.Starts.length c, .slice p_1 l.Events.length c_1] 25), (2, .cells b_1 [.int .i64 rv_5.1.Low, .int .i64 rv_5.1.High] 33), (3, .cells b_2 [.int .i64 rv_6.1.Low, .int .i64 rv_6.1.High] 33)] w ∧ KQ_3 t_2) ?_ ?_
 ·rcases bcases (([rv_5.1.Low, rv_5.1.High] == [rv_6.1.Low, rv_6.1.High]) && (rv_5.2 == rv_6.2)) with hbv_4 | hbv_4
  ·-- true
   replace h := ncond_t ht_2 hbv_4
   refine guard_on hF rfl rfl hbv_4 ?_
   obtain ⟨KQ_2, hx_7, hk_2⟩ := nbnd_ex h
   refine O.callPN (us := []) ca_23 hF hS (remontoirlaw07_works_ok hS.stab hG KQ_2 hx_7) rfl rfl fun rv_8 h a w hF hS => ?_
   replace h := hk_2 _ h
   refine step hF (Y.pick_t hF rfl hbv_4 rfl) rfl fun a hF => nil (then_n ⟨_, Dv_1, Stab.le.refl _, hF.weak ⟨rfl, rfl, trivial⟩, hS.weak ⟨rfl, rfl, rfl, trivial⟩, nret h⟩)
  -- false
  replace h := ncond_f ht_2 hbv_4
  refine guard_off hF rfl rfl hbv_4 rfl fun a hF => step hF (Y.pick_f hF rfl hbv_4 rfl) rfl fun a hF => nil (then_n ⟨_, Dv_1, Stab.le.refl _, hF.weak ⟨rfl, rfl, trivial⟩, hS.weak ⟨rfl, rfl, rfl, trivial⟩, nret h⟩)
 rintro a w ⟨t_2, Dv_2, hlev_2, hF, hS, h⟩
 replace h := hk_3 _ h
 replace hs := hs.mono hlev_2
 replace hs_1 := hs_1.mono hlev_2
 replace hG := hG.mono hlev_2
 replace hs_2 := hs_2.mono hlev_2
 replace hs_3 := hs_3.mono hlev_2
 refine step hF (Y.assign hF rfl) rfl fun a hF => nil (then_n (ret_ (leavePN _ (nret h) Tryd.results3 hF hS (.cons (.tmp rfl) .nil) .nil rfl)))
end Go.Proofs.YtmbgmefmkjeahaaDoor.Rt
