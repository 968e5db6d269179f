/- Walks of the functions of this seat: what each Go function comes to, as a Lean function, and the proof. A law. Under no conditions. -/
import Derived.Test.YtmbgmefmkjeahaaDoorC5WRZ
set_option linter.unusedVariables false
set_option linter.unusedSimpArgs false
set_option maxRecDepth 100000
set_option maxHeartbeats 4000000
namespace Go.Proofs.YtmbgmefmkjeahaaDoor.Rt
open Go Go.RowKit
noncomputable def w7SlaveWrongs (l : SlaveLine) (lost : Int) : ND Bool :=
  (ND.bnd (slave_Wrong l) fun rv =>
  (ND.det (r7Wrong l) fun rv_1 =>
  (ND.det (r0Alike rv.1 rv_1.1) fun rv_2 =>
  cond ((!rv_2) || (rv.2 != rv_1.2))
  (ND.ret false)
  ((ND.bnd (slave_Homes l lost) fun rv_3 =>
  (ND.det (r7Homes l lost) fun rv_4 =>
  (ND.bnd (cond ((rv_3.1 == rv_4.1) && (rv_3.2 == rv_4.2)) ((ND.bnd (w7works) fun rv_6 =>
  ND.ret rv_6)) (ND.ret false)) fun t =>
  ND.ret t)))))))
theorem w7SlaveWrongs_ok {w0 : World} {D0 : Stab} (hD : D0.on w0) (l : SlaveLine) (lost : Int) {p : Option Addr} {c : Nat} {p_1 : Option Addr} {c_1 : Nat} (hs : SRc C_SlaveStart D0 l.Starts p c) (hs_1 : SRc C_SlaveEvent D0 l.Events p_1 c_1) (hG : Glob D0) (out : Bool → Prop) (h : w7SlaveWrongs l lost out) : Calls Tryd.prog 5 [.agg #[.int .i64 l.Ring, .slice p l.Starts.length c, .slice p_1 l.Events.length c_1], .int .i64 lost].toArray w0 (RetPN D0 w0 out fun (out : Bool) => .bool out) := by
 refine enter _ 53 Tryd.func5 rfl Tryd.ntmps5 rfl fun a hF => ?_
 replace hF : Frm 53 [] [(0, .agg #[.int .i64 l.Ring, .slice p l.Starts.length c, .slice p_1 l.Events.length c_1]), (1, .int .i64 lost)] a := hF
 have hS := St.start hD
 unfold w7SlaveWrongs at h
 refine seq (region (O.box (cs := [.int .i64 l.Ring, .slice p l.Starts.length c, .slice p_1 l.Events.length c_1]) 1 hF rfl rfl hS rfl fun b a w hF hS => step hF (Y.assign hF rfl) rfl fun a hF => nil (then_n (seq (region (step hF (Y.loadNL 1 sz_25 hF rfl hS rfl rfl rfl) rfl fun a hF => ?_))))))
 obtain ⟨KQ, hx, hk⟩ := nbnd_ex h
 refine O.callSN (us := [.agg #[.int .i64 l.Ring, .slice p l.Starts.length c, .slice p_1 l.Events.length c_1]]) ca_28 hF hS (slave_Wrong_ok hS.stab l hs hs_1 hG KQ hx) rfl rfl fun rv h v Dv a w hR hlev hF hS => ?_
 replace h := hk _ h
 replace hs := hs.mono hlev
 replace hs_1 := hs_1.mono hlev
 replace hG := hG.mono hlev
 obtain ⟨p_2, c_2, rfl, hs_2⟩ := hR
 refine step hF (Y.move hF rfl) rfl fun a hF => step hF (Y.extract hF rfl rfl) rfl fun a hF => step hF (Y.extract hF rfl rfl) rfl fun a hF => step hF (Y.assign hF rfl) rfl fun a hF => step hF (Y.assign hF rfl) rfl fun a hF => nil (then_n (seq (region (step hF (Y.loadNL 1 sz_25 hF rfl hS rfl rfl rfl) rfl fun a hF => ?_))))
 obtain ⟨rv_1, hx_1, h⟩ := ndet h
 refine O.callS (us := [.agg #[.int .i64 l.Ring, .slice p l.Starts.length c, .slice p_1 l.Events.length c_1]]) ca_29 hF hS (r7Wrong_ok hS.stab l hs hs_1 rv_1 hx_1) rfl rfl fun v_1 Dv_1 a w hR_1 hlev_1 hF hS => ?_
 replace hs := hs.mono hlev_1
 replace hs_1 := hs_1.mono hlev_1
 replace hG := hG.mono hlev_1
 replace hs_2 := hs_2.mono hlev_1
 obtain ⟨p_3, c_3, rfl, hs_3⟩ := hR_1
 refine step hF (Y.move hF rfl) rfl fun a hF => step hF (Y.extract hF rfl rfl) rfl fun a hF => step hF (Y.extract hF rfl rfl) rfl fun a hF => step hF (Y.assign hF rfl) rfl fun a hF => step hF (Y.assign hF rfl) rfl fun a hF => nil (then_n (seq (seq (region (step hF (Y.move hF rfl) rfl fun a hF => step hF (Y.move hF rfl) rfl fun a hF => ?_)))))
 obtain ⟨rv_2, hx_2, h⟩ := ndet h
 refine O.callP (us := [.slice p_2 rv.1.length c_2, .slice p_3 rv_1.1.length c_3]) ca_18 hF hS (r0Alike_ok hS.stab rv.1 rv_1.1 hs_2 hs_3 rv_2 hx_2) rfl rfl fun a w hF hS => step hF (Y.not hF rfl) rfl fun a hF => step hF (Y.move hF rfl) rfl fun a hF => join (N := 53) (rs := []) (w0 := w0) (D0 := D0) 4 (us := [(1, .int .i64 lost), (2, .pointer (some ⟨b, 0, none⟩)), (4, .bool false), (6, .int .i64 rv.2), (8, .int .i64 rv_1.2), (29, .bool ((!rv_2) || (rv.2 != rv_1.2)))]) (ms := [(1, .cells b [.int .i64 l.Ring, .slice p l.Starts.length c, .slice p_1 l.Events.length c_1] 25)]) (D' := Dv_1) ?_ ?_
 ·rcases bcases (!rv_2) with hbv | hbv
  ·skip
   refine guard_off hF rfl rfl hbv rfl fun a hF => guard_off hF rfl rfl hbv rfl fun a hF => guard_off hF rfl rfl hbv rfl fun a hF => step hF (Y.pick_t hF rfl hbv rfl) rfl fun a hF => nil (then_n ⟨hF.weak ⟨rfl, rfl, rfl, rfl, rfl, (by rw [hbv]; rfl), trivial⟩, hS.weak ⟨rfl, trivial⟩⟩)
  refine guard_on hF rfl rfl hbv (step hF (Y.move hF rfl) rfl fun a hF => guard_on hF rfl rfl hbv (step hF (Y.move hF rfl) rfl fun a hF => guard_on hF rfl rfl hbv (step hF (Y.neq hF rfl rfl) rfl fun a hF => step hF (Y.pick_f hF rfl hbv rfl) rfl fun a hF => nil (then_n ⟨hF.weak ⟨rfl, rfl, rfl, rfl, rfl, (by rw [hbv]; rfl), trivial⟩, hS.weak ⟨rfl, trivial⟩⟩))))
 intro a w hF hS
 refine nil (then_n (cond_b hF rfl (fun hbv_1 => ?_) (fun hbv_1 => ?_)))
 ·replace h := ncond_t h hbv_1
  refine seq (region (step hF (Y.assign hF rfl) rfl fun a hF => nil (then_n (ret_ (then_r (leavePN _ (nret h) Tryd.results5 hF hS (.cons (.tmp rfl) .nil) .nil rfl))))))
 replace h := ncond_f h hbv_1
 refine skip_ (then_n (seq (region (step hF (Y.loadNL 1 sz_25 hF rfl hS rfl rfl rfl) rfl fun a hF => step hF (Y.move hF rfl) rfl fun a hF => ?_))))
 obtain ⟨KQ_1, hx_3, hk_1⟩ := nbnd_ex h
 refine O.callPN (us := [.agg #[.int .i64 l.Ring, .slice p l.Starts.length c, .slice p_1 l.Events.length c_1], .int .i64 lost]) ca_30 hF hS (slave_Homes_ok hS.stab l lost hs hs_1 hG KQ_1 hx_3) rfl rfl fun rv_3 h a w hF hS => ?_
 replace h := hk_1 _ h
 refine step hF (Y.move hF rfl) rfl fun a hF => step hF (Y.extract hF rfl rfl) rfl fun a hF => step hF (Y.extract hF rfl rfl) rfl fun a hF => step hF (Y.assign hF rfl) rfl fun a hF => step hF (Y.assign hF rfl) rfl fun a hF => nil (then_n (seq (region (step hF (Y.loadNL 1 sz_25 hF rfl hS rfl rfl rfl) rfl fun a hF => step hF (Y.move hF rfl) rfl fun a hF => ?_))))
 obtain ⟨rv_4, hx_4, h⟩ := ndet h
 refine O.callP (us := [.agg #[.int .i64 l.Ring, .slice p l.Starts.length c, .slice p_1 l.Events.length c_1], .int .i64 lost]) ca_31 hF hS (r7Homes_ok hS.stab l lost hs hs_1 rv_4 hx_4) rfl rfl fun a w hF hS => step hF (Y.move hF rfl) rfl fun a hF => step hF (Y.extract hF rfl rfl) rfl fun a hF => step hF (Y.extract hF rfl rfl) rfl fun a hF => step hF (Y.assign hF rfl) rfl fun a hF => step hF (Y.assign hF rfl) rfl fun a hF => nil (then_n (seq (region (step hF (Y.move hF rfl) rfl fun a hF => step hF (Y.move hF rfl) rfl fun a hF => step hF (Y.eql hF rfl rfl) rfl fun a hF => step hF (Y.move hF rfl) rfl fun a hF => join (N := 53) (rs := []) (w0 := w0) (D0 := D0) 4 (us := [(4, .bool false), (49, .bool ((rv_3.1 == rv_4.1) && (rv_3.2 == rv_4.2)))]) (ms := [(1, .cells b [.int .i64 l.Ring, .slice p l.Starts.length c, .slice p_1 l.Events.length c_1] 25)]) (D' := Dv_1) ?_ ?_))))
 ·rcases bcases (rv_3.1 == rv_4.1) with hbv_2 | hbv_2
  ·skip
   refine guard_on hF rfl rfl hbv_2 (step hF (Y.move hF rfl) rfl fun a hF => guard_on hF rfl rfl hbv_2 (step hF (Y.move hF rfl) rfl fun a hF => guard_on hF rfl rfl hbv_2 (step hF (Y.eql hF rfl rfl) rfl fun a hF => step hF (Y.pick_t hF rfl hbv_2 rfl) rfl fun a hF => nil (then_n ⟨hF.weak ⟨rfl, (by rw [hbv_2]; rfl), trivial⟩, hS.weak ⟨rfl, trivial⟩⟩))))
  refine guard_off hF rfl rfl hbv_2 rfl fun a hF => guard_off hF rfl rfl hbv_2 rfl fun a hF => guard_off hF rfl rfl hbv_2 rfl fun a hF => step hF (Y.pick_f hF rfl hbv_2 rfl) rfl fun a hF => nil (then_n ⟨hF.weak ⟨rfl, (by rw [hbv_2]; rfl), trivial⟩, hS.weak ⟨rfl, trivial⟩⟩)
 intro a w hF hS
 refine step hF (Y.move hF rfl) rfl fun a hF => ?_
 obtain ⟨KQ_3, ht, hk_3⟩ := nbnd_ex h
 refine list_cut 2 (fun a w => ∃ (t : Bool) (D : Stab), Dv_1.le D ∧ Frm 53 [] [(4, .bool false), (52, .bool t)] a ∧ St w0 D0 D [(1, .cells b [.int .i64 l.Ring, .slice p l.Starts.length c, .slice p_1 l.Events.length c_1] 25)] w ∧ KQ_3 t) ?_ ?_
 ·rcases bcases ((rv_3.1 == rv_4.1) && (rv_3.2 == rv_4.2)) with hbv_3 | hbv_3
  ·skip
   replace h := ncond_t ht hbv_3
   refine guard_on hF rfl rfl hbv_3 ?_
   obtain ⟨KQ_2, hx_5, hk_2⟩ := nbnd_ex h
   refine O.callPN (us := []) ca_23 hF hS (w7works_ok hS.stab hG KQ_2 hx_5) rfl rfl fun rv_6 h a w hF hS => ?_
   replace h := hk_2 _ h
   refine step hF (Y.pick_t hF rfl hbv_3 rfl) rfl fun a hF => nil (then_n ⟨_, Dv_1, Stab.le.refl _, hF.weak ⟨rfl, rfl, trivial⟩, hS.weak ⟨rfl, trivial⟩, nret h⟩)
  replace h := ncond_f ht hbv_3
  refine guard_off hF rfl rfl hbv_3 rfl fun a hF => step hF (Y.pick_f hF rfl hbv_3 rfl) rfl fun a hF => nil (then_n ⟨_, Dv_1, Stab.le.refl _, hF.weak ⟨rfl, rfl, trivial⟩, hS.weak ⟨rfl, trivial⟩, nret h⟩)
 rintro a w ⟨t, Dv_2, hlev_2, hF, hS, h⟩
 replace h := hk_3 _ h
 refine step hF (Y.assign hF rfl) rfl fun a hF => nil (then_n (ret_ (leavePN _ (nret h) Tryd.results5 hF hS (.cons (.tmp rfl) .nil) .nil rfl)))
end Go.Proofs.YtmbgmefmkjeahaaDoor.Rt
