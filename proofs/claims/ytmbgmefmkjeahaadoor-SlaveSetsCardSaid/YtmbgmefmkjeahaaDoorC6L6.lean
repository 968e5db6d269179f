/- Walks of the functions of this seat: what each Go function comes to, as a Lean function, and the proof. A law. Under no conditions. -/
import Derived.Test.YtmbgmefmkjeahaaDoorC6WRZ
set_option linter.unusedVariables false
set_option linter.unusedSimpArgs false
set_option maxRecDepth 100000
set_option maxHeartbeats 4000000
namespace Go.Proofs.YtmbgmefmkjeahaaDoor.Rt
open Go Go.RowKit
noncomputable def w7SlaveSets (l : SlaveLine) (minute : Int) (p_2 : SlavePlan) : ND Bool :=
  (ND.bnd (slave_Sets l minute p_2) fun rv =>
  (ND.det (r7Sets l minute p_2) fun rv_1 =>
  cond ((rv.1 != rv_1.1) || (rv.2 != rv_1.2))
  (ND.ret false)
  ((ND.bnd (slave_Set l minute) fun rv_2 =>
  (ND.det (r7Set l minute) fun rv_3 =>
  (ND.bnd (cond (([rv_2.1.Pre, rv_2.1.Home, rv_2.1.First, rv_2.1.Send] == [rv_3.1.Pre, rv_3.1.Home, rv_3.1.First, rv_3.1.Send]) && (rv_2.2 == rv_3.2)) ((ND.bnd (w7works) fun rv_5 =>
  ND.ret rv_5)) (ND.ret false)) fun t =>
  ND.ret t))))))
theorem w7SlaveSets_ok {w0 : World} {D0 : Stab} (hD : D0.on w0) (l : SlaveLine) (minute : Int) (p_2 : SlavePlan) {p : Option Addr} {c : Nat} {p_1 : Option Addr} {c_1 : Nat} (hs : SRc C_SlaveStart D0 l.Starts p c) (hs_1 : SRc C_SlaveEvent D0 l.Events p_1 c_1) (hG : Glob D0) (out : Bool → Prop) (h : w7SlaveSets l minute p_2 out) : Calls Tryd.prog 6 [.agg #[.int .i64 l.Ring, .slice p l.Starts.length c, .slice p_1 l.Events.length c_1], .int .i64 minute, .agg #[.int .i64 p_2.Pre, .int .i64 p_2.Home, .int .i64 p_2.First, .int .i64 p_2.Send]].toArray w0 (RetPN D0 w0 out fun (out : Bool) => .bool out) := by
 refine enter _ 58 Tryd.func6 rfl Tryd.ntmps6 rfl fun a hF => ?_
 replace hF : Frm 58 [] [(0, .agg #[.int .i64 l.Ring, .slice p l.Starts.length c, .slice p_1 l.Events.length c_1]), (1, .int .i64 minute), (2, .agg #[.int .i64 p_2.Pre, .int .i64 p_2.Home, .int .i64 p_2.First, .int .i64 p_2.Send])] a := hF
 have hS := St.start hD
 unfold w7SlaveSets at h
 refine seq (region (O.box (cs := [.int .i64 l.Ring, .slice p l.Starts.length c, .slice p_1 l.Events.length c_1]) 1 hF rfl rfl hS rfl fun b a w hF hS => O.box (cs := [.int .i64 p_2.Pre, .int .i64 p_2.Home, .int .i64 p_2.First, .int .i64 p_2.Send]) 2 hF rfl rfl hS rfl fun b_1 a w hF hS => step hF (Y.assign hF rfl) rfl fun a hF => nil (then_n (seq (region (step hF (Y.loadNL 1 sz_25 hF rfl hS rfl rfl rfl) rfl fun a hF => step hF (Y.move hF rfl) rfl fun a hF => step hF (Y.loadNL 2 sz_49 hF rfl hS rfl rfl rfl) rfl fun a hF => ?_))))))
 obtain ⟨KQ, hx, hk⟩ := nbnd_ex h
 refine O.callPN (us := [.agg #[.int .i64 l.Ring, .slice p l.Starts.length c, .slice p_1 l.Events.length c_1], .int .i64 minute, .agg #[.int .i64 p_2.Pre, .int .i64 p_2.Home, .int .i64 p_2.First, .int .i64 p_2.Send]]) ca_32 hF hS (slave_Sets_ok hS.stab l minute p_2 hs hs_1 hG KQ hx) rfl rfl fun rv h a w hF hS => ?_
 replace h := hk _ h
 refine step hF (Y.move hF rfl) rfl fun a hF => step hF (Y.extract hF rfl rfl) rfl fun a hF => step hF (Y.extract hF rfl rfl) rfl fun a hF => step hF (Y.assign hF rfl) rfl fun a hF => step hF (Y.assign hF rfl) rfl fun a hF => nil (then_n (seq (region (step hF (Y.loadNL 1 sz_25 hF rfl hS rfl rfl rfl) rfl fun a hF => step hF (Y.move hF rfl) rfl fun a hF => step hF (Y.loadNL 2 sz_49 hF rfl hS rfl rfl rfl) rfl fun a hF => ?_))))
 obtain ⟨rv_1, hx_1, h⟩ := ndet h
 refine O.callP (us := [.agg #[.int .i64 l.Ring, .slice p l.Starts.length c, .slice p_1 l.Events.length c_1], .int .i64 minute, .agg #[.int .i64 p_2.Pre, .int .i64 p_2.Home, .int .i64 p_2.First, .int .i64 p_2.Send]]) ca_33 hF hS (r7Sets_ok hS.stab l minute p_2 hs hs_1 rv_1 hx_1) rfl rfl fun a w hF hS => step hF (Y.move hF rfl) rfl fun a hF => step hF (Y.extract hF rfl rfl) rfl fun a hF => step hF (Y.extract hF rfl rfl) rfl fun a hF => step hF (Y.assign hF rfl) rfl fun a hF => step hF (Y.assign hF rfl) rfl fun a hF => nil (then_n (seq (seq (region (step hF (Y.move hF rfl) rfl fun a hF => step hF (Y.move hF rfl) rfl fun a hF => step hF (Y.neb u_4 hF rfl rfl) rfl fun a hF => step hF (Y.move hF rfl) rfl fun a hF => join (N := 58) (rs := []) (w0 := w0) (D0 := D0) 4 (us := [(1, .int .i64 minute), (3, .pointer (some ⟨b, 0, none⟩)), (6, .bool false), (8, .int .i64 rv.2), (10, .int .i64 rv_1.2), (34, .bool ((rv.1 != rv_1.1) || (rv.2 != rv_1.2)))]) (ms := [(1, .cells b [.int .i64 l.Ring, .slice p l.Starts.length c, .slice p_1 l.Events.length c_1] 25), (2, .cells b_1 [.int .i64 p_2.Pre, .int .i64 p_2.Home, .int .i64 p_2.First, .int .i64 p_2.Send] 49)]) (D' := D0) ?_ ?_)))))
 ·rcases bcases (rv.1 != rv_1.1) with hbv | hbv
  ·skip
   refine guard_off hF rfl rfl hbv rfl fun a hF => guard_off hF rfl rfl hbv rfl fun a hF => guard_off hF rfl rfl hbv rfl fun a hF => step hF (Y.pick_t hF rfl hbv rfl) rfl fun a hF => nil (then_n ⟨hF.weak ⟨rfl, rfl, rfl, rfl, rfl, (by rw [hbv]; rfl), trivial⟩, hS.weak ⟨rfl, rfl, trivial⟩⟩)
  refine guard_on hF rfl rfl hbv (step hF (Y.move hF rfl) rfl fun a hF => guard_on hF rfl rfl hbv (step hF (Y.move hF rfl) rfl fun a hF => guard_on hF rfl rfl hbv (step hF (Y.neq hF rfl rfl) rfl fun a hF => step hF (Y.pick_f hF rfl hbv rfl) rfl fun a hF => nil (then_n ⟨hF.weak ⟨rfl, rfl, rfl, rfl, rfl, (by rw [hbv]; rfl), trivial⟩, hS.weak ⟨rfl, rfl, trivial⟩⟩))))
 intro a w hF hS
 refine nil (then_n (cond_b hF rfl (fun hbv_1 => ?_) (fun hbv_1 => ?_)))
 ·replace h := ncond_t h hbv_1
  refine seq (region (step hF (Y.assign hF rfl) rfl fun a hF => nil (then_n (ret_ (then_r (leavePN _ (nret h) Tryd.results6 hF hS (.cons (.tmp rfl) .nil) .nil rfl))))))
 replace h := ncond_f h hbv_1
 refine skip_ (then_n (seq (region (step hF (Y.loadNL 1 sz_25 hF rfl hS rfl rfl rfl) rfl fun a hF => step hF (Y.move hF rfl) rfl fun a hF => ?_))))
 obtain ⟨KQ_1, hx_2, hk_1⟩ := nbnd_ex h
 refine O.callPN (us := [.agg #[.int .i64 l.Ring, .slice p l.Starts.length c, .slice p_1 l.Events.length c_1], .int .i64 minute]) ca_34 hF hS (slave_Set_ok hS.stab l minute hs hs_1 hG KQ_1 hx_2) rfl rfl fun rv_2 h a w hF hS => ?_
 replace h := hk_1 _ h
 refine step hF (Y.move hF rfl) rfl fun a hF => step hF (Y.extract hF rfl rfl) rfl fun a hF => step hF (Y.extract hF rfl rfl) rfl fun a hF => O.alloc 3 zc_49 hF hS rfl fun b_2 a w hF hS => O.store (us := [.int .i64 rv_2.1.Pre, .int .i64 rv_2.1.Home, .int .i64 rv_2.1.First, .int .i64 rv_2.1.Send]) 3 sz_49 hF rfl rfl rfl rfl hS rfl rfl fun a w hF hS => step hF (Y.assign hF rfl) rfl fun a hF => nil (then_n (seq (region (step hF (Y.loadNL 1 sz_25 hF rfl hS rfl rfl rfl) rfl fun a hF => step hF (Y.move hF rfl) rfl fun a hF => ?_))))
 obtain ⟨rv_3, hx_3, h⟩ := ndet h
 refine O.callP (us := [.agg #[.int .i64 l.Ring, .slice p l.Starts.length c, .slice p_1 l.Events.length c_1], .int .i64 minute]) ca_35 hF hS (r7Set_ok hS.stab l minute hs hs_1 rv_3 hx_3) rfl rfl fun a w hF hS => step hF (Y.move hF rfl) rfl fun a hF => step hF (Y.extract hF rfl rfl) rfl fun a hF => step hF (Y.extract hF rfl rfl) rfl fun a hF => O.alloc 4 zc_49 hF hS rfl fun b_3 a w hF hS => O.store (us := [.int .i64 rv_3.1.Pre, .int .i64 rv_3.1.Home, .int .i64 rv_3.1.First, .int .i64 rv_3.1.Send]) 4 sz_49 hF rfl rfl rfl rfl hS rfl rfl fun a w hF hS => step hF (Y.assign hF rfl) rfl fun a hF => nil (then_n (seq (region (step hF (Y.loadNL 3 sz_49 hF rfl hS rfl rfl rfl) rfl fun a hF => step hF (Y.loadNL 4 sz_49 hF rfl hS rfl rfl rfl) rfl fun a hF => step hF (Y.eqst (fun w => eqT_49.equal (by decide) (l := [rv_2.1.Pre, rv_2.1.Home, rv_2.1.First, rv_2.1.Send]) (m := [rv_3.1.Pre, rv_3.1.Home, rv_3.1.First, rv_3.1.Send]) rfl rfl) (fun w => run_eqGuard_agg _ _ _ _ _ _ _ eg_49) hF rfl rfl) rfl fun a hF => step hF (Y.move hF rfl) rfl fun a hF => join (N := 58) (rs := []) (w0 := w0) (D0 := D0) 4 (us := [(6, .bool false), (54, .bool (([rv_2.1.Pre, rv_2.1.Home, rv_2.1.First, rv_2.1.Send] == [rv_3.1.Pre, rv_3.1.Home, rv_3.1.First, rv_3.1.Send]) && (rv_2.2 == rv_3.2)))]) (ms := [(1, .cells b [.int .i64 l.Ring, .slice p l.Starts.length c, .slice p_1 l.Events.length c_1] 25), (2, .cells b_1 [.int .i64 p_2.Pre, .int .i64 p_2.Home, .int .i64 p_2.First, .int .i64 p_2.Send] 49), (3, .cells b_2 [.int .i64 rv_2.1.Pre, .int .i64 rv_2.1.Home, .int .i64 rv_2.1.First, .int .i64 rv_2.1.Send] 49), (4, .cells b_3 [.int .i64 rv_3.1.Pre, .int .i64 rv_3.1.Home, .int .i64 rv_3.1.First, .int .i64 rv_3.1.Send] 49)]) (D' := D0) ?_ ?_))))
 ·rcases bcases ([rv_2.1.Pre, rv_2.1.Home, rv_2.1.First, rv_2.1.Send] == [rv_3.1.Pre, rv_3.1.Home, rv_3.1.First, rv_3.1.Send]) with hbv_2 | hbv_2
  ·skip
   refine guard_on hF rfl rfl hbv_2 (step hF (Y.move hF rfl) rfl fun a hF => guard_on hF rfl rfl hbv_2 (step hF (Y.move hF rfl) rfl fun a hF => guard_on hF rfl rfl hbv_2 (step hF (Y.eql hF rfl rfl) rfl fun a hF => step hF (Y.pick_t hF rfl hbv_2 rfl) rfl fun a hF => nil (then_n ⟨hF.weak ⟨rfl, (by rw [hbv_2]; rfl), trivial⟩, hS.weak ⟨rfl, rfl, rfl, rfl, trivial⟩⟩))))
  refine guard_off hF rfl rfl hbv_2 rfl fun a hF => guard_off hF rfl rfl hbv_2 rfl fun a hF => guard_off hF rfl rfl hbv_2 rfl fun a hF => step hF (Y.pick_f hF rfl hbv_2 rfl) rfl fun a hF => nil (then_n ⟨hF.weak ⟨rfl, (by rw [hbv_2]; rfl), trivial⟩, hS.weak ⟨rfl, rfl, rfl, rfl, trivial⟩⟩)
 intro a w hF hS
 refine step hF (Y.move hF rfl) rfl fun a hF => ?_
 obtain ⟨KQ_3, ht, hk_3⟩ := nbnd_ex h
 refine list_cut 2 (fun a w => ∃ (t : Bool) (D : Stab), D0.le D ∧ Frm 58 [] [(6, .bool false), (57, .bool t)] a ∧ St w0 D0 D [(1, .cells b [.int .i64 l.Ring, .slice p l.Starts.length c, .slice p_1 l.Events.length c_1] 25), (2, .cells b_1 [.int .i64 p_2.Pre, .int .i64 p_2.Home, .int .i64 p_2.First, .int .i64 p_2.Send] 49), (3, .cells b_2 [.int .i64 rv_2.1.Pre, .int .i64 rv_2.1.Home, .int .i64 rv_2.1.First, .int .i64 rv_2.1.Send] 49), (4, .cells b_3 [.int .i64 rv_3.1.Pre, .int .i64 rv_3.1.Home, .int .i64 rv_3.1.First, .int .i64 rv_3.1.Send] 49)] w ∧ KQ_3 t) ?_ ?_
 ·rcases bcases (([rv_2.1.Pre, rv_2.1.Home, rv_2.1.First, rv_2.1.Send] == [rv_3.1.Pre, rv_3.1.Home, rv_3.1.First, rv_3.1.Send]) && (rv_2.2 == rv_3.2)) with hbv_3 | hbv_3
  ·skip
   replace h := ncond_t ht hbv_3
   refine guard_on hF rfl rfl hbv_3 ?_
   obtain ⟨KQ_2, hx_4, hk_2⟩ := nbnd_ex h
   refine O.callPN (us := []) ca_23 hF hS (w7works_ok hS.stab hG KQ_2 hx_4) rfl rfl fun rv_5 h a w hF hS => ?_
   replace h := hk_2 _ h
   refine step hF (Y.pick_t hF rfl hbv_3 rfl) rfl fun a hF => nil (then_n ⟨_, D0, Stab.le.refl _, hF.weak ⟨rfl, rfl, trivial⟩, hS.weak ⟨rfl, rfl, rfl, rfl, trivial⟩, nret h⟩)
  replace h := ncond_f ht hbv_3
  refine guard_off hF rfl rfl hbv_3 rfl fun a hF => step hF (Y.pick_f hF rfl hbv_3 rfl) rfl fun a hF => nil (then_n ⟨_, D0, Stab.le.refl _, hF.weak ⟨rfl, rfl, trivial⟩, hS.weak ⟨rfl, rfl, rfl, rfl, trivial⟩, nret h⟩)
 rintro a w ⟨t, Dv, hlev, hF, hS, h⟩
 replace h := hk_3 _ h
 refine step hF (Y.assign hF rfl) rfl fun a hF => nil (then_n (ret_ (leavePN _ (nret h) Tryd.results6 hF hS (.cons (.tmp rfl) .nil) .nil rfl)))
end Go.Proofs.YtmbgmefmkjeahaaDoor.Rt
