/- Walks of the functions of this seat: what each Go function comes to, as a Lean function, and the proof. A law. Under no conditions. -/
import Derived.Test.YtmbgmefmkjeahaaDoorC4WRZ
import Derived.Test.YtmbgmefmkjeahaaDoorC4WSZ
set_option linter.unusedVariables false
set_option linter.unusedSimpArgs false
set_option maxRecDepth 100000
set_option maxHeartbeats 4000000
namespace Go.Proofs.YtmbgmefmkjeahaaDoor.Rt
open Go Go.RowKit
noncomputable def w7SlaveStories (l : SlaveLine) (who : Int) (story : (List (List Int))) : ND Bool :=
  (ND.det (slave_IsStory l who story) fun rv =>
  (ND.det (r7IsStory l who story) fun rv_1 =>
  cond ((rv.1 != rv_1.1) || (rv.2 != rv_1.2))
  (ND.ret false)
  ((ND.bnd (slave_Story l who) fun rv_2 =>
  (ND.det (r7Lost l who) fun rv_3 =>
  cond (rv_2.2 != rv_3.2)
  (ND.ret false)
  (cond (rv_3.2 != 0)
  ((ND.bnd (cond ((rv_2.1.length : Int) == 0) ((ND.bnd (w7works) fun rv_5 =>
  ND.ret rv_5)) (ND.ret false)) fun t =>
  ND.ret t))
  ((ND.det (r7IsStory l who rv_2.1) fun rv_6 =>
  (ND.det (cond rv_6.1 ((w7lostIn rv_2.1).bind fun rv_10 =>
  some (rv_10 == rv_3.1.Low)) (some false)) fun t_3 =>
  (ND.bnd (cond t_3 ((ND.bnd (w7works) fun rv_12 =>
  ND.ret rv_12)) (ND.ret false)) fun t_4 =>
  ND.ret t_4))))))))))
theorem w7SlaveStories_ok {w0 : World} {D0 : Stab} (hD : D0.on w0) (l : SlaveLine) (who : Int) (story : (List (List Int))) {p : Option Addr} {c : Nat} {p_1 : Option Addr} {c_1 : Nat} {p_2 : Option Addr} {c_2 : Nat} (hs : SRc C_SlaveStart D0 l.Starts p c) (hs_1 : SRc C_SlaveEvent D0 l.Events p_1 c_1) (hs_2 : SRc (C_sl C_int) D0 story p_2 c_2) (hG : Glob D0) (out : Bool → Prop) (h : w7SlaveStories l who story out) : Calls Tryd.prog 4 [.agg #[.int .i64 l.Ring, .slice p l.Starts.length c, .slice p_1 l.Events.length c_1], .int .i64 who, .slice p_2 story.length c_2].toArray w0 (RetPN D0 w0 out fun (out : Bool) => .bool out) := by
 refine enter _ 76 Tryd.func4 rfl Tryd.ntmps4 rfl fun a hF => ?_
 replace hF : Frm 76 [] [(0, .agg #[.int .i64 l.Ring, .slice p l.Starts.length c, .slice p_1 l.Events.length c_1]), (1, .int .i64 who), (2, .slice p_2 story.length c_2)] a := hF
 have hS := St.start hD
 unfold w7SlaveStories at h
 refine seq (region (O.box (cs := [.int .i64 l.Ring, .slice p l.Starts.length c, .slice p_1 l.Events.length c_1]) 1 hF rfl rfl hS rfl fun b a w hF hS => step hF (Y.assign hF rfl) rfl fun a hF => nil (then_n (seq (region (step hF (Y.loadNL 1 sz_25 hF rfl hS rfl rfl rfl) rfl fun a hF => step hF (Y.move hF rfl) rfl fun a hF => step hF (Y.move hF rfl) rfl fun a hF => ?_))))))
 obtain ⟨rv, hx, h⟩ := ndet h
 refine O.callP (us := [.agg #[.int .i64 l.Ring, .slice p l.Starts.length c, .slice p_1 l.Events.length c_1], .int .i64 who, .slice p_2 story.length c_2]) ca_24 hF hS (slave_IsStory_ok hS.stab l who story hs hs_1 hs_2 hG rv hx) rfl rfl fun a w hF hS => step hF (Y.move hF rfl) rfl fun a hF => step hF (Y.extract hF rfl rfl) rfl fun a hF => step hF (Y.extract hF rfl rfl) rfl fun a hF => step hF (Y.assign hF rfl) rfl fun a hF => step hF (Y.assign hF rfl) rfl fun a hF => nil (then_n (seq (region (step hF (Y.loadNL 1 sz_25 hF rfl hS rfl rfl rfl) rfl fun a hF => step hF (Y.move hF rfl) rfl fun a hF => step hF (Y.move hF rfl) rfl fun a hF => ?_))))
 obtain ⟨rv_1, hx_1, h⟩ := ndet h
 refine O.callP (us := [.agg #[.int .i64 l.Ring, .slice p l.Starts.length c, .slice p_1 l.Events.length c_1], .int .i64 who, .slice p_2 story.length c_2]) ca_25 hF hS (r7IsStory_ok hS.stab l who story hs hs_1 hs_2 rv_1 hx_1) rfl rfl fun a w hF hS => step hF (Y.move hF rfl) rfl fun a hF => step hF (Y.extract hF rfl rfl) rfl fun a hF => step hF (Y.extract hF rfl rfl) rfl fun a hF => step hF (Y.assign hF rfl) rfl fun a hF => step hF (Y.assign hF rfl) rfl fun a hF => nil (then_n (seq (seq (region (step hF (Y.move hF rfl) rfl fun a hF => step hF (Y.move hF rfl) rfl fun a hF => step hF (Y.neb u_4 hF rfl rfl) rfl fun a hF => step hF (Y.move hF rfl) rfl fun a hF => join (N := 76) (rs := []) (w0 := w0) (D0 := D0) 4 (us := [(1, .int .i64 who), (3, .pointer (some ⟨b, 0, none⟩)), (6, .bool false), (7, .bool rv.1), (8, .int .i64 rv.2), (10, .int .i64 rv_1.2), (34, .bool ((rv.1 != rv_1.1) || (rv.2 != rv_1.2)))]) (ms := [(1, .cells b [.int .i64 l.Ring, .slice p l.Starts.length c, .slice p_1 l.Events.length c_1] 25)]) (D' := D0) ?_ ?_)))))
 ·rcases bcases (rv.1 != rv_1.1) with hbv | hbv
  ·skip
   refine guard_off hF rfl rfl hbv rfl fun a hF => guard_off hF rfl rfl hbv rfl fun a hF => guard_off hF rfl rfl hbv rfl fun a hF => step hF (Y.pick_t hF rfl hbv rfl) rfl fun a hF => nil (then_n ⟨hF.weak ⟨rfl, rfl, rfl, rfl, rfl, rfl, (by rw [hbv]; rfl), trivial⟩, hS.weak ⟨rfl, trivial⟩⟩)
  refine guard_on hF rfl rfl hbv (step hF (Y.move hF rfl) rfl fun a hF => guard_on hF rfl rfl hbv (step hF (Y.move hF rfl) rfl fun a hF => guard_on hF rfl rfl hbv (step hF (Y.neq hF rfl rfl) rfl fun a hF => step hF (Y.pick_f hF rfl hbv rfl) rfl fun a hF => nil (then_n ⟨hF.weak ⟨rfl, rfl, rfl, rfl, rfl, rfl, (by rw [hbv]; rfl), trivial⟩, hS.weak ⟨rfl, trivial⟩⟩))))
 intro a w hF hS
 refine nil (then_n (cond_b hF rfl (fun hbv_1 => ?_) (fun hbv_1 => ?_)))
 ·replace h := ncond_t h hbv_1
  refine seq (region (step hF (Y.assign hF rfl) rfl fun a hF => nil (then_n (ret_ (then_r (leavePN _ (nret h) Tryd.results4 hF hS (.cons (.tmp rfl) .nil) .nil rfl))))))
 replace h := ncond_f h hbv_1
 refine skip_ (then_n (seq (region (step hF (Y.loadNL 1 sz_25 hF rfl hS rfl rfl rfl) rfl fun a hF => step hF (Y.move hF rfl) rfl fun a hF => ?_))))
 obtain ⟨KQ, hx_2, hk⟩ := nbnd_ex h
 refine O.callSN (us := [.agg #[.int .i64 l.Ring, .slice p l.Starts.length c, .slice p_1 l.Events.length c_1], .int .i64 who]) ca_26 hF hS (slave_Story_ok hS.stab l who hs hs_1 hG KQ hx_2) rfl rfl fun rv_2 h v Dv a w hR hlev hF hS => ?_
 replace h := hk _ h
 replace hs := hs.mono hlev
 replace hs_1 := hs_1.mono hlev
 replace hG := hG.mono hlev
 obtain ⟨p_3, c_3, rfl, hs_3⟩ := hR
 refine step hF (Y.move hF rfl) rfl fun a hF => step hF (Y.extract hF rfl rfl) rfl fun a hF => step hF (Y.extract hF rfl rfl) rfl fun a hF => step hF (Y.assign hF rfl) rfl fun a hF => step hF (Y.assign hF rfl) rfl fun a hF => nil (then_n (seq (region (step hF (Y.loadNL 1 sz_25 hF rfl hS rfl rfl rfl) rfl fun a hF => step hF (Y.move hF rfl) rfl fun a hF => ?_))))
 obtain ⟨rv_3, hx_3, h⟩ := ndet h
 refine O.callP (us := [.agg #[.int .i64 l.Ring, .slice p l.Starts.length c, .slice p_1 l.Events.length c_1], .int .i64 who]) ca_22 hF hS (r7Lost_ok hS.stab l who hs hs_1 rv_3 hx_3) rfl rfl fun a w hF hS => step hF (Y.move hF rfl) rfl fun a hF => step hF (Y.extract hF rfl rfl) rfl fun a hF => step hF (Y.extract hF rfl rfl) rfl fun a hF => O.alloc 2 zc_33 hF hS rfl fun b_1 a w hF hS => O.store (us := [.int .i64 rv_3.1.Low, .int .i64 rv_3.1.High]) 2 sz_33 hF rfl rfl rfl rfl hS rfl rfl fun a w hF hS => step hF (Y.assign hF rfl) rfl fun a hF => nil (then_n (seq (seq (region (step hF (Y.move hF rfl) rfl fun a hF => step hF (Y.move hF rfl) rfl fun a hF => step hF (Y.neq hF rfl rfl) rfl fun a hF => nil (then_n (cond_b hF rfl (fun hbv_2 => ?_) (fun hbv_2 => ?_))))))))
 ·replace h := ncond_t h hbv_2
  refine seq (region (step hF (Y.assign hF rfl) rfl fun a hF => nil (then_n (ret_ (then_r (leavePN _ (nret h) Tryd.results4 hF hS (.cons (.tmp rfl) .nil) .nil rfl))))))
 replace h := ncond_f h hbv_2
 refine skip_ (then_n (seq (seq (region (step hF (Y.move hF rfl) rfl fun a hF => step hF (Y.neq hF rfl rfl) rfl fun a hF => nil (then_n (cond_b hF rfl (fun hbv_3 => ?_) (fun hbv_3 => ?_))))))))
 ·replace h := ncond_t h hbv_3
  refine seq (region (step hF (Y.move hF rfl) rfl fun a hF => step hF (Y.lenSl u_38 hF rfl) rfl fun a hF => step hF (Y.eql hF rfl rfl) rfl fun a hF => step hF (Y.move hF rfl) rfl fun a hF => ?_))
  obtain ⟨KQ_2, ht, hk_2⟩ := nbnd_ex h
  refine list_cut 2 (fun a w => ∃ (t : Bool) (D : Stab), Dv.le D ∧ Frm 76 [] [(1, .int .i64 who), (3, .pointer (some ⟨b, 0, none⟩)), (6, .bool false), (7, .bool rv.1), (11, .slice p_3 rv_2.1.length c_3), (12, .pointer (some ⟨b_1, 0, none⟩)), (57, .bool t)] a ∧ St w0 D0 D [(1, .cells b [.int .i64 l.Ring, .slice p l.Starts.length c, .slice p_1 l.Events.length c_1] 25), (2, .cells b_1 [.int .i64 rv_3.1.Low, .int .i64 rv_3.1.High] 33)] w ∧ KQ_2 t) ?_ ?_
  ·rcases bcases ((rv_2.1.length : Int) == 0) with hbv_4 | hbv_4
   ·skip
    replace h := ncond_t ht hbv_4
    refine guard_on hF rfl rfl hbv_4 ?_
    obtain ⟨KQ_1, hx_4, hk_1⟩ := nbnd_ex h
    refine O.callPN (us := []) ca_23 hF hS (w7works_ok hS.stab hG KQ_1 hx_4) rfl rfl fun rv_5 h a w hF hS => ?_
    replace h := hk_1 _ h
    refine step hF (Y.pick_t hF rfl hbv_4 rfl) rfl fun a hF => nil (then_n ⟨_, Dv, Stab.le.refl _, hF.weak ⟨rfl, rfl, rfl, rfl, rfl, rfl, rfl, trivial⟩, hS.weak ⟨rfl, rfl, trivial⟩, nret h⟩)
   replace h := ncond_f ht hbv_4
   refine guard_off hF rfl rfl hbv_4 rfl fun a hF => step hF (Y.pick_f hF rfl hbv_4 rfl) rfl fun a hF => nil (then_n ⟨_, Dv, Stab.le.refl _, hF.weak ⟨rfl, rfl, rfl, rfl, rfl, rfl, rfl, trivial⟩, hS.weak ⟨rfl, rfl, trivial⟩, nret h⟩)
  rintro a w ⟨t, Dv_1, hlev_1, hF, hS, h⟩
  replace h := hk_2 _ h
  refine step hF (Y.assign hF rfl) rfl fun a hF => nil (then_n (ret_ (then_r (leavePN _ (nret h) Tryd.results4 hF hS (.cons (.tmp rfl) .nil) .nil rfl))))
 replace h := ncond_f h hbv_3
 refine skip_ (then_n (seq (region (step hF (Y.loadNL 1 sz_25 hF rfl hS rfl rfl rfl) rfl fun a hF => step hF (Y.move hF rfl) rfl fun a hF => step hF (Y.move hF rfl) rfl fun a hF => ?_))))
 obtain ⟨rv_6, hx_5, h⟩ := ndet h
 refine O.callP (us := [.agg #[.int .i64 l.Ring, .slice p l.Starts.length c, .slice p_1 l.Events.length c_1], .int .i64 who, .slice p_3 rv_2.1.length c_3]) ca_25 hF hS (r7IsStory_ok hS.stab l who rv_2.1 hs hs_1 hs_3 rv_6 hx_5) rfl rfl fun a w hF hS => step hF (Y.move hF rfl) rfl fun a hF => step hF (Y.extract hF rfl rfl) rfl fun a hF => step hF (Y.extract hF rfl rfl) rfl fun a hF => step hF (Y.assign hF rfl) rfl fun a hF => nil (then_n (seq (drawsV 12 (.flt 0 (.flt 1 (.flt 2 (.flt 4 (.flt 5 (.alt 3 (.flt 6 (.flt 7 (.flt 8 (.alt 9 (.flt 10 (.flt 11 .done)) .stop)))) .stop)))))) mixed_ (by kernel_rfl) (fun w => St w0 D0 Dv [(1, .cells b [.int .i64 l.Ring, .slice p l.Starts.length c, .slice p_1 l.Events.length c_1] 25), (2, .cells b_1 [.int .i64 rv_3.1.Low, .int .i64 rv_3.1.High] 33)] w) _ (hS.weak (ms := [(1, .cells b [.int .i64 l.Ring, .slice p l.Starts.length c, .slice p_1 l.Events.length c_1] 25), (2, .cells b_1 [.int .i64 rv_3.1.Low, .int .i64 rv_3.1.High] 33)]) ⟨rfl, rfl, trivial⟩).drew (fun _ _ _ _ h => h) ?_ (fun _ _ h => h))))
 replace hS := hS.drew
 have hle0 := hS.le
 refine stepV (i := 0) rfl hF (fun w hS => Y.move hF rfl) rfl fun a hF => stepV (i := 1) rfl hF (fun w hS => Y.move hF rfl) rfl fun a hF => ?_
 obtain ⟨t_3, ht_3, h⟩ := ndet h
 refine cutV (u := (.flt 8 (.alt 9 (.flt 10 (.flt 11 .done)) .stop))) (fun a w => ∃ (D : Stab), Dv.le D ∧ Frm 76 [] [(6, .bool false), (72, .bool t_3)] a ∧ St w0 D0 D [(1, .cells b [.int .i64 l.Ring, .slice p l.Starts.length c, .slice p_1 l.Events.length c_1] 25), (2, .cells b_1 [.int .i64 rv_3.1.Low, .int .i64 rv_3.1.High] 33)] w) ?_ ?_
 ·intro hcut
  rcases bcases rv_6.1 with hbv_7 | hbv_7
  ·skip
   replace h := cond_t ht_3 hbv_7
   refine stepV_on (i := 2) rfl hF rfl rfl hbv_7 (fun w hS => Y.move hF rfl) rfl fun a hF => stepV_on (i := 4) rfl hF rfl rfl hbv_7 (fun w hS => Y.fieldAddr fo_33_0 hF rfl) rfl fun a hF => stepV_on (i := 5) rfl hF rfl rfl hbv_7 (fun w hS => Y.load1L 2 sz_3 hF rfl hS rfl rfl) rfl fun a hF => oneV (i := 3) rfl ?_ trivial
   refine guard_on hF rfl rfl hbv_7 ?_
   obtain ⟨rv_10, hx_8, h⟩ := bind_some h
   refine O.callP (us := [.slice p_3 rv_2.1.length c_3]) ca_27 hF hS (w7lostIn_ok hS.stab rv_2.1 hs_3 rv_10 hx_8) rfl rfl fun a w hF hS => nil (then_n ⟨hS.weak ⟨rfl, rfl, trivial⟩, ?_⟩)
   refine stepV_on (i := 6) rfl hF rfl rfl hbv_7 (fun w hS => Y.eql hF rfl rfl) rfl fun a hF => stepV (i := 7) rfl hF (fun w hS => Y.pick_t hF rfl hbv_7 rfl) rfl fun a hF => ?_
   obtain rfl := some_inj h
   exact hcut _ _ ⟨Dv, Stab.le.refl _, hF.weak ⟨rfl, rfl, trivial⟩, hS.weak ⟨rfl, rfl, trivial⟩⟩
  replace h := cond_f ht_3 hbv_7
  refine stepV_off (i := 2) rfl hF rfl rfl hbv_7 rfl fun a hF => stepV_off (i := 4) rfl hF rfl rfl hbv_7 rfl fun a hF => stepV_off (i := 5) rfl hF rfl rfl hbv_7 rfl fun a hF => oneV (i := 3) rfl (guard_off hF rfl rfl hbv_7 rfl fun a hF => nil (then_n ⟨hS.weak ⟨rfl, rfl, trivial⟩, ?_⟩)) trivial
  refine stepV_off (i := 6) rfl hF rfl rfl hbv_7 rfl fun a hF => stepV (i := 7) rfl hF (fun w hS => Y.pick_f hF rfl hbv_7 rfl) rfl fun a hF => ?_
  obtain rfl := some_inj h
  exact hcut _ _ ⟨Dv, Stab.le.refl _, hF.weak ⟨rfl, rfl, trivial⟩, hS.weak ⟨rfl, rfl, trivial⟩⟩
 rintro a w ⟨Dv_3, hlev_3, hF, hS⟩
 replace hG := hG.mono hlev_3
 refine stepV (i := 8) rfl hF (fun w hS => Y.move hF rfl) rfl fun a hF => ?_
 obtain ⟨KQ_6, ht_4, hk_6⟩ := nbnd_ex h
 refine cutV (u := (.flt 11 .done)) (fun a w => ∃ (t_4 : Bool) (D : Stab), Dv_3.le D ∧ Frm 76 [] [(6, .bool false), (75, .bool t_4)] a ∧ St w0 D0 D [(1, .cells b [.int .i64 l.Ring, .slice p l.Starts.length c, .slice p_1 l.Events.length c_1] 25), (2, .cells b_1 [.int .i64 rv_3.1.Low, .int .i64 rv_3.1.High] 33)] w ∧ KQ_6 t_4) ?_ ?_
 ·intro hcut
  rcases bcases t_3 with hbv_8 | hbv_8
  ·skip
   replace h := ncond_t ht_4 hbv_8
   refine oneV (i := 9) rfl ?_ trivial
   refine guard_on hF rfl rfl hbv_8 ?_
   obtain ⟨KQ_5, hx_9, hk_5⟩ := nbnd_ex h
   refine O.callPN (us := []) ca_23 hF hS (w7works_ok hS.stab hG KQ_5 hx_9) rfl rfl fun rv_12 h a w hF hS => ?_
   replace h := hk_5 _ h
   refine nil (then_n ⟨(hS.weak (ms := [(1, .cells b [.int .i64 l.Ring, .slice p l.Starts.length c, .slice p_1 l.Events.length c_1] 25), (2, .cells b_1 [.int .i64 rv_3.1.Low, .int .i64 rv_3.1.High] 33)]) ⟨rfl, rfl, trivial⟩).weakD hlev_3 hle0, ?_⟩)
   refine stepV (i := 10) rfl hF (fun w hS => Y.pick_t hF rfl hbv_8 rfl) rfl fun a hF => hcut _ _ ⟨_, Dv_3, Stab.le.refl _, hF.weak ⟨rfl, rfl, trivial⟩, hS.weak ⟨rfl, rfl, trivial⟩, nret h⟩
  replace h := ncond_f ht_4 hbv_8
  refine oneV (i := 9) rfl (guard_off hF rfl rfl hbv_8 rfl fun a hF => nil (then_n ⟨(hS.weak (ms := [(1, .cells b [.int .i64 l.Ring, .slice p l.Starts.length c, .slice p_1 l.Events.length c_1] 25), (2, .cells b_1 [.int .i64 rv_3.1.Low, .int .i64 rv_3.1.High] 33)]) ⟨rfl, rfl, trivial⟩).weakD hlev_3 hle0, ?_⟩)) trivial
  refine stepV (i := 10) rfl hF (fun w hS => Y.pick_f hF rfl hbv_8 rfl) rfl fun a hF => hcut _ _ ⟨_, Dv_3, Stab.le.refl _, hF.weak ⟨rfl, rfl, trivial⟩, hS.weak ⟨rfl, rfl, trivial⟩, nret h⟩
 rintro a w ⟨t_4, Dv_4, hlev_4, hF, hS, h⟩
 replace h := hk_6 _ h
 refine stepV (i := 11) rfl hF (fun w hS => Y.assign hF rfl) rfl fun a hF => toTailV (nil (then_n (ret_ (leavePN _ (nret h) Tryd.results4 hF hS (.cons (.tmp rfl) .nil) .nil rfl))))
end Go.Proofs.YtmbgmefmkjeahaaDoor.Rt
