/- Walks of the functions of this seat: what each Go function comes to, as a Lean function, and the proof. A law. Under no conditions. -/
import Derived.Test.YtmbgmefmkjeahaaDoorC13WOZ
set_option linter.unusedVariables false
set_option linter.unusedSimpArgs false
set_option maxRecDepth 100000
set_option maxHeartbeats 4000000
namespace Go.Proofs.YtmbgmefmkjeahaaDoor.Rt
open Go Go.RowKit
noncomputable def w7SlaveRight_b2 (l : SlaveLine) (bits : (List Int)) (rv_2 : Int) (rv_4 : ((List (List Int)) × SlaveStart × SlaveLine)) (rv_5 : (SlavePlan × Int)) : (Int × Int × Int) → ND ((Int × Int × Int) ⊕ Bool)
 | (i, z_2, z_3) =>
  cond (decide (i < rv_5.1.Send))
  ((ND.det (r0Rest (wr (rv_5.1.First + i)) 2) fun rv_15 =>
  (ND.det (w7moved l.Ring (SlaveStart.mk z_2 z_3) rv_15) fun rv_16 =>
  nnxt (wr (i + 1), rv_16.Shown, rv_16.Last))))
  (next_ (cond (z_2 != rv_2)
  (ND.ret false)
  ((ND.det (r0At bits 0) fun rv_17 =>
  (ND.det (r0Rest rv_17 3) fun rv_18 =>
  (ND.det (r0At bits 1) fun rv_19 =>
  (ND.det (r0Rest rv_19 61) fun rv_20 =>
  (ND.det (r0At bits 2) fun rv_21 =>
  (ND.det (r0Rest rv_21 2) fun rv_22 =>
  (ND.det (r0At bits 3) fun rv_23 =>
  (ND.det (r0Rest rv_23 61) fun rv_24 =>
  (ND.det (w7pulses (SlavePlan.mk (wr (rv_18 - 1)) rv_20 rv_22 rv_24)) fun rv_25 =>
  (ND.det (w7pulses rv_5.1) fun rv_26 =>
  cond (decide (rv_25 ≥ rv_26))
  ((ND.bnd (w7works) fun rv_27 =>
  ND.ret rv_27))
  ((ND.bnd (slave_Sets rv_4.2.2 rv_2 (SlavePlan.mk (wr (rv_18 - 1)) rv_20 rv_22 rv_24)) fun rv_28 =>
  (ND.bnd (cond ((rv_28.2 == 0) && (!rv_28.1)) ((ND.bnd (w7works) fun rv_30 =>
  ND.ret rv_30)) (ND.ret false)) fun t_7 =>
  ND.ret t_7))))))))))))))))
noncomputable def w7SlaveRight_k1 (l : SlaveLine) (bits : (List Int)) (rv_2 : Int) (rv_4 : ((List (List Int)) × SlaveStart × SlaveLine)) (rv_5 : (SlavePlan × Int)) (z : Int) (z_1 : Int) : ND Bool :=
  (ND.det (w7homed l.Ring (SlaveStart.mk z z_1) rv_5.1.Home) fun rv_14 =>
  loopN (w7SlaveRight_b2 l bits rv_2 rv_4 rv_5) (0, rv_14.Shown, rv_14.Last))
noncomputable def w7SlaveRight (l : SlaveLine) (n : Arr2) (bits : (List Int)) : ND Bool :=
  (ND.det (w7sound l) fun rv =>
  cond (!rv)
  ((ND.bnd (w7works) fun rv_1 =>
  ND.ret rv_1))
  ((ND.det (r0Rest n.a0 l.Ring) fun rv_2 =>
  (ND.det (r0Rest n.a1 (l.Starts.length : Int)) fun rv_3 =>
  (ND.det (w7was l rv_3 bits) fun rv_4 =>
  (ND.bnd (slave_Set rv_4.2.2 rv_2) fun rv_5 =>
  cond (rv_5.2 != 0)
  ((ND.bnd (cond ((rv_5.2 == 72) && ([rv_5.1.Pre, rv_5.1.Home, rv_5.1.First, rv_5.1.Send] == [0, 0, 0, 0])) ((ND.bnd (w7works) fun rv_7 =>
  ND.ret rv_7)) (ND.ret false)) fun t =>
  ND.ret t))
  ((ND.bnd (slave_Sets rv_4.2.2 rv_2 rv_5.1) fun rv_8 =>
  (ND.det (cond (rv_8.2 != 0) (some true) (some (!rv_8.1))) fun t_1 =>
  (ND.det (cond t_1 (some true) ((r0Lies rv_5.1.Pre (-1) 1).bind fun rv_9 =>
  some (!rv_9))) fun t_2 =>
  (ND.det (cond t_2 (some true) ((r0Lies rv_5.1.Home 0 60).bind fun rv_10 =>
  some (!rv_10))) fun t_3 =>
  (ND.det (cond t_3 (some true) ((r0Lies rv_5.1.First 0 1).bind fun rv_11 =>
  some (!rv_11))) fun t_4 =>
  (ND.det (cond t_4 (some true) ((r0Lies rv_5.1.Send 0 60).bind fun rv_12 =>
  some (!rv_12))) fun t_5 =>
  (ND.det (cond t_5 (some true) ((w7pulses rv_5.1).bind fun rv_13 =>
  some (decide (rv_13 > (wr (l.Ring + rv_2)))))) fun t_6 =>
  cond t_6
  (ND.ret false)
  (cond (decide (rv_5.1.Pre ≥ 0))
  ((ND.det (w7moved l.Ring rv_4.2.1 rv_5.1.Pre) fun rv_31 =>
  w7SlaveRight_k1 l bits rv_2 rv_4 rv_5 rv_31.Shown rv_31.Last))
  (w7SlaveRight_k1 l bits rv_2 rv_4 rv_5 rv_4.2.1.Shown rv_4.2.1.Last))))))))))))))))
theorem w7SlaveRight_ok {w0 : World} {D0 : Stab} (hD : D0.on w0) (l : SlaveLine) (n : Arr2) (bits : (List Int)) {p : Option Addr} {c : Nat} {p_1 : Option Addr} {c_1 : Nat} {p_2 : Option Addr} {c_2 : Nat} (hs : SRc C_SlaveStart D0 l.Starts p c) (hs_1 : SRc C_SlaveEvent D0 l.Events p_1 c_1) (hs_2 : SRc C_int D0 bits p_2 c_2) (hG : Glob D0) (out : Bool → Prop) (h : w7SlaveRight l n bits out) : Calls Tryd.prog 13 [.agg #[.int .i64 l.Ring, .slice p l.Starts.length c, .slice p_1 l.Events.length c_1], .agg #[.int .i64 n.a0, .int .i64 n.a1], .slice p_2 bits.length c_2].toArray w0 (RetPN D0 w0 out fun (out : Bool) => .bool out) := by
 refine enter _ 175 Tryd.func13 rfl Tryd.ntmps13 rfl fun a hF => ?_
 replace hF : Frm 175 [] [(0, .agg #[.int .i64 l.Ring, .slice p l.Starts.length c, .slice p_1 l.Events.length c_1]), (1, .agg #[.int .i64 n.a0, .int .i64 n.a1]), (2, .slice p_2 bits.length c_2)] a := hF
 have hS := St.start hD
 unfold w7SlaveRight at h
 refine seq (region (O.box (cs := [.int .i64 l.Ring, .slice p l.Starts.length c, .slice p_1 l.Events.length c_1]) 1 hF rfl rfl hS rfl fun b a w hF hS => O.box (cs := [.int .i64 n.a0, .int .i64 n.a1]) 2 hF rfl rfl hS rfl fun b_1 a w hF hS => step hF (Y.assign hF rfl) rfl fun a hF => nil (then_n (seq (seq (region (step hF (Y.loadNL 1 sz_25 hF rfl hS rfl rfl rfl) rfl fun a hF => ?_)))))))
 obtain ⟨rv, hx, h⟩ := ndet h
 refine O.callP (us := [.agg #[.int .i64 l.Ring, .slice p l.Starts.length c, .slice p_1 l.Events.length c_1]]) ca_36 hF hS (w7sound_ok hS.stab l hs hs_1 rv hx) rfl rfl fun a w hF hS => step hF (Y.not hF rfl) rfl fun a hF => nil (then_n (cond_b hF rfl (fun hbv => ?_) (fun hbv => ?_)))
 ·replace h := ncond_t h hbv
  refine seq (region ?_)
  obtain ⟨KQ, hx_1, hk⟩ := nbnd_ex h
  refine O.callPN (us := []) ca_23 hF hS (w7works_ok hS.stab hG KQ hx_1) rfl rfl fun rv_1 h a w hF hS => ?_
  replace h := hk _ h
  refine step hF (Y.assign hF rfl) rfl fun a hF => nil (then_n (ret_ (then_r (leavePN _ (nret h) Tryd.results13 hF hS (.cons (.tmp rfl) .nil) .nil rfl))))
 replace h := ncond_f h hbv
 refine skip_ (then_n (seq ?_))
 obtain ⟨rv_2, hx_2, h⟩ := ndet h
 refine drawsV 10 (.flt 0 (.flt 1 (.flt 2 (.flt 3 (.flt 5 (.flt 6 (.flt 7 (.flt 8 (.flt 9 (.alt 4 .done .stop)))))))))) mixed_ (by kernel_rfl) (fun w => St w0 D0 D0 [(1, .cells b [.int .i64 l.Ring, .slice p l.Starts.length c, .slice p_1 l.Events.length c_1] 25), (2, .cells b_1 [.int .i64 n.a0, .int .i64 n.a1] 64)] w) (fun a w => Frm 175 [] [(2, .slice p_2 bits.length c_2), (3, .pointer (some ⟨b, 0, none⟩)), (6, .bool false), (26, .int .i64 rv_2), (28, .int .i64 n.a1), (31, .int .i64 (l.Starts.length : Int))] a ∧ St w0 D0 D0 [(1, .cells b [.int .i64 l.Ring, .slice p l.Starts.length c, .slice p_1 l.Events.length c_1] 25), (2, .cells b_1 [.int .i64 n.a0, .int .i64 n.a1] 64)] w) (hS.weak (ms := [(1, .cells b [.int .i64 l.Ring, .slice p l.Starts.length c, .slice p_1 l.Events.length c_1] 25), (2, .cells b_1 [.int .i64 n.a0, .int .i64 n.a1] 64)]) ⟨rfl, rfl, trivial⟩).drew (fun _ _ _ _ h => h) ?_ ?_
 ·replace hS := hS.drew
  have hle0 := hS.le
  refine stepV (i := 0) rfl hF (fun w hS => Y.indexArr u_64 sz_3 hF rfl rfl (by decide) (by decide)) rfl fun a hF => stepV (i := 1) rfl hF (fun w hS => Y.load1L 2 sz_3 hF rfl hS rfl rfl) rfl fun a hF => stepV (i := 2) rfl hF (fun w hS => Y.fieldAddr fo_25_0 hF rfl) rfl fun a hF => stepV (i := 3) rfl hF (fun w hS => Y.load1L 1 sz_3 hF rfl hS rfl rfl) rfl fun a hF => stepV (i := 5) rfl hF (fun w hS => Y.indexArr u_64 sz_3 hF rfl rfl (by decide) (by decide)) rfl fun a hF => stepV (i := 6) rfl hF (fun w hS => Y.load1L 2 sz_3 hF rfl hS rfl rfl) rfl fun a hF => stepV (i := 7) rfl hF (fun w hS => Y.fieldAddr fo_25_1 hF rfl) rfl fun a hF => stepV (i := 8) rfl hF (fun w hS => Y.load1L 1 sz_22 hF rfl hS rfl rfl) rfl fun a hF => stepV (i := 9) rfl hF (fun w hS => Y.lenSl u_22 hF rfl) rfl fun a hF => oneV (i := 4) rfl ?_ trivial
  refine O.callP (us := [.int .i64 n.a0, .int .i64 l.Ring]) ca_37 hF hS (r0Rest_ok hS.stab n.a0 l.Ring rv_2 hx_2) rfl rfl fun a w hF hS => nil (then_n ⟨hS.weak ⟨rfl, rfl, trivial⟩, ?_⟩)
  exact toTailV ⟨hF.weak ⟨rfl, rfl, rfl, rfl, rfl, rfl, trivial⟩, hS.weak ⟨rfl, rfl, trivial⟩⟩
 rintro a w ⟨hF, hS⟩
 obtain ⟨rv_3, hx_3, h⟩ := ndet h
 refine O.callP (us := [.int .i64 n.a1, .int .i64 (l.Starts.length : Int)]) ca_37 hF hS (r0Rest_ok hS.stab n.a1 (l.Starts.length : Int) rv_3 hx_3) rfl rfl fun a w hF hS => step hF (Y.assign hF rfl) rfl fun a hF => step hF (Y.assign hF rfl) rfl fun a hF => nil (then_n (seq (region (step hF (Y.loadNL 1 sz_25 hF rfl hS rfl rfl rfl) rfl fun a hF => step hF (Y.move hF rfl) rfl fun a hF => step hF (Y.move hF rfl) rfl fun a hF => ?_))))
 obtain ⟨rv_4, hx_4, h⟩ := ndet h
 refine O.callS (us := [.agg #[.int .i64 l.Ring, .slice p l.Starts.length c, .slice p_1 l.Events.length c_1], .int .i64 rv_3, .slice p_2 bits.length c_2]) ca_38 hF hS (w7was_ok hS.stab l rv_3 bits hs hs_1 hs_2 rv_4 hx_4) rfl rfl fun v Dv a w hR hlev hF hS => ?_
 replace hs_2 := hs_2.mono hlev
 replace hG := hG.mono hlev
 obtain ⟨p_3, c_3, p_4, c_4, p_5, c_5, rfl, hs_3, hs_4, hs_5⟩ := hR
 refine step hF (Y.move hF rfl) rfl fun a hF => step hF (Y.extract hF rfl rfl) rfl fun a hF => step hF (Y.extract hF rfl rfl) rfl fun a hF => step hF (Y.extract hF rfl rfl) rfl fun a hF => O.alloc 3 zc_57 hF hS rfl fun b_2 a w hF hS => O.alloc 4 zc_25 hF hS rfl fun b_3 a w hF hS => step hF (Y.assign hF rfl) rfl fun a hF => O.store (us := [.int .i64 rv_4.2.1.Shown, .int .i64 rv_4.2.1.Last]) 3 sz_57 hF rfl rfl rfl rfl hS rfl rfl fun a w hF hS => O.store (us := [.int .i64 rv_4.2.2.Ring, .slice p_4 rv_4.2.2.Starts.length c_4, .slice p_5 rv_4.2.2.Events.length c_5]) 4 sz_25 hF rfl rfl rfl rfl hS rfl rfl fun a w hF hS => nil (then_n (seq (region (step hF (Y.loadNL 4 sz_25 hF rfl hS rfl rfl rfl) rfl fun a hF => step hF (Y.move hF rfl) rfl fun a hF => ?_))))
 obtain ⟨KQ_1, hx_5, hk_1⟩ := nbnd_ex h
 refine O.callPN (us := [.agg #[.int .i64 rv_4.2.2.Ring, .slice p_4 rv_4.2.2.Starts.length c_4, .slice p_5 rv_4.2.2.Events.length c_5], .int .i64 rv_2]) ca_34 hF hS (slave_Set_ok hS.stab rv_4.2.2 rv_2 hs_4 hs_5 hG KQ_1 hx_5) rfl rfl fun rv_5 h a w hF hS => ?_
 replace h := hk_1 _ h
 refine step hF (Y.move hF rfl) rfl fun a hF => step hF (Y.extract hF rfl rfl) rfl fun a hF => step hF (Y.extract hF rfl rfl) rfl fun a hF => O.alloc 5 zc_49 hF hS rfl fun b_4 a w hF hS => O.store (us := [.int .i64 rv_5.1.Pre, .int .i64 rv_5.1.Home, .int .i64 rv_5.1.First, .int .i64 rv_5.1.Send]) 5 sz_49 hF rfl rfl rfl rfl hS rfl rfl fun a w hF hS => step hF (Y.assign hF rfl) rfl fun a hF => nil (then_n (seq (seq (region (step hF (Y.move hF rfl) rfl fun a hF => step hF (Y.neq hF rfl rfl) rfl fun a hF => nil (then_n (cond_b hF rfl (fun hbv_1 => ?_) (fun hbv_1 => ?_))))))))
 ·replace h := ncond_t h hbv_1
  refine seq (region (step hF (Y.move hF rfl) rfl fun a hF => step hF (Y.eql hF rfl rfl) rfl fun a hF => step hF (Y.move hF rfl) rfl fun a hF => join (N := 175) (rs := []) (w0 := w0) (D0 := D0) 4 (us := [(2, .slice p_2 bits.length c_2), (3, .pointer (some ⟨b, 0, none⟩)), (6, .bool false), (7, .int .i64 rv_2), (10, .pointer (some ⟨b_2, 0, none⟩)), (11, .pointer (some ⟨b_3, 0, none⟩)), (12, .pointer (some ⟨b_4, 0, none⟩)), (55, .bool ((rv_5.2 == 72) && ([rv_5.1.Pre, rv_5.1.Home, rv_5.1.First, rv_5.1.Send] == [0, 0, 0, 0])))]) (ms := [(1, .cells b [.int .i64 l.Ring, .slice p l.Starts.length c, .slice p_1 l.Events.length c_1] 25), (2, .cells b_1 [.int .i64 n.a0, .int .i64 n.a1] 64), (3, .cells b_2 [.int .i64 rv_4.2.1.Shown, .int .i64 rv_4.2.1.Last] 57), (4, .cells b_3 [.int .i64 rv_4.2.2.Ring, .slice p_4 rv_4.2.2.Starts.length c_4, .slice p_5 rv_4.2.2.Events.length c_5] 25), (5, .cells b_4 [.int .i64 rv_5.1.Pre, .int .i64 rv_5.1.Home, .int .i64 rv_5.1.First, .int .i64 rv_5.1.Send] 49)]) (D' := Dv) ?_ ?_))
  ·rcases bcases (rv_5.2 == 72) with hbv_2 | hbv_2
   ·skip
    refine guard_on hF rfl rfl hbv_2 (step hF (Y.loadNL 5 sz_49 hF rfl hS rfl rfl rfl) rfl fun a hF => guard_on hF rfl rfl hbv_2 (step hF (Y.build (parts := []) (cs := #[.int .i64 0, .int .i64 0, .int .i64 0, .int .i64 0]) hF rfl (by kernel_rfl)) rfl fun a hF => guard_on hF rfl rfl hbv_2 (step hF (Y.eqst (fun w => eqT_49.equal (by decide) (l := [rv_5.1.Pre, rv_5.1.Home, rv_5.1.First, rv_5.1.Send]) (m := [0, 0, 0, 0]) rfl rfl) (fun w => run_eqGuard_agg _ _ _ _ _ _ _ eg_49) hF rfl rfl) rfl fun a hF => step hF (Y.pick_t hF rfl hbv_2 rfl) rfl fun a hF => nil (then_n ⟨hF.weak ⟨rfl, rfl, rfl, rfl, rfl, rfl, rfl, (by rw [hbv_2]; rfl), trivial⟩, hS.weak ⟨rfl, rfl, rfl, rfl, rfl, trivial⟩⟩))))
   refine guard_off hF rfl rfl hbv_2 rfl fun a hF => guard_off hF rfl rfl hbv_2 rfl fun a hF => guard_off hF rfl rfl hbv_2 rfl fun a hF => step hF (Y.pick_f hF rfl hbv_2 rfl) rfl fun a hF => nil (then_n ⟨hF.weak ⟨rfl, rfl, rfl, rfl, rfl, rfl, rfl, (by rw [hbv_2]; rfl), trivial⟩, hS.weak ⟨rfl, rfl, rfl, rfl, rfl, trivial⟩⟩)
  intro a w hF hS
  refine step hF (Y.move hF rfl) rfl fun a hF => ?_
  obtain ⟨KQ_3, ht, hk_3⟩ := nbnd_ex h
  refine list_cut 2 (fun a w => ∃ (t : Bool) (D : Stab), Dv.le D ∧ Frm 175 [] [(2, .slice p_2 bits.length c_2), (3, .pointer (some ⟨b, 0, none⟩)), (6, .bool false), (7, .int .i64 rv_2), (10, .pointer (some ⟨b_2, 0, none⟩)), (11, .pointer (some ⟨b_3, 0, none⟩)), (12, .pointer (some ⟨b_4, 0, none⟩)), (58, .bool t)] a ∧ St w0 D0 D [(1, .cells b [.int .i64 l.Ring, .slice p l.Starts.length c, .slice p_1 l.Events.length c_1] 25), (2, .cells b_1 [.int .i64 n.a0, .int .i64 n.a1] 64), (3, .cells b_2 [.int .i64 rv_4.2.1.Shown, .int .i64 rv_4.2.1.Last] 57), (4, .cells b_3 [.int .i64 rv_4.2.2.Ring, .slice p_4 rv_4.2.2.Starts.length c_4, .slice p_5 rv_4.2.2.Events.length c_5] 25), (5, .cells b_4 [.int .i64 rv_5.1.Pre, .int .i64 rv_5.1.Home, .int .i64 rv_5.1.First, .int .i64 rv_5.1.Send] 49)] w ∧ KQ_3 t) ?_ ?_
  ·rcases bcases ((rv_5.2 == 72) && ([rv_5.1.Pre, rv_5.1.Home, rv_5.1.First, rv_5.1.Send] == [0, 0, 0, 0])) with hbv_3 | hbv_3
   ·skip
    replace h := ncond_t ht hbv_3
    refine guard_on hF rfl rfl hbv_3 ?_
    obtain ⟨KQ_2, hx_6, hk_2⟩ := nbnd_ex h
    refine O.callPN (us := []) ca_23 hF hS (w7works_ok hS.stab hG KQ_2 hx_6) rfl rfl fun rv_7 h a w hF hS => ?_
    replace h := hk_2 _ h
    refine step hF (Y.pick_t hF rfl hbv_3 rfl) rfl fun a hF => nil (then_n ⟨_, Dv, Stab.le.refl _, hF.weak ⟨rfl, rfl, rfl, rfl, rfl, rfl, rfl, rfl, trivial⟩, hS.weak ⟨rfl, rfl, rfl, rfl, rfl, trivial⟩, nret h⟩)
   replace h := ncond_f ht hbv_3
   refine guard_off hF rfl rfl hbv_3 rfl fun a hF => step hF (Y.pick_f hF rfl hbv_3 rfl) rfl fun a hF => nil (then_n ⟨_, Dv, Stab.le.refl _, hF.weak ⟨rfl, rfl, rfl, rfl, rfl, rfl, rfl, rfl, trivial⟩, hS.weak ⟨rfl, rfl, rfl, rfl, rfl, trivial⟩, nret h⟩)
  rintro a w ⟨t, Dv_1, hlev_1, hF, hS, h⟩
  replace h := hk_3 _ h
  refine step hF (Y.assign hF rfl) rfl fun a hF => nil (then_n (ret_ (then_r (leavePN _ (nret h) Tryd.results13 hF hS (.cons (.tmp rfl) .nil) .nil rfl))))
 replace h := ncond_f h hbv_1
 refine skip_ (then_n (seq (region (step hF (Y.loadNL 4 sz_25 hF rfl hS rfl rfl rfl) rfl fun a hF => step hF (Y.move hF rfl) rfl fun a hF => step hF (Y.loadNL 5 sz_49 hF rfl hS rfl rfl rfl) rfl fun a hF => ?_))))
 obtain ⟨KQ_4, hx_7, hk_4⟩ := nbnd_ex h
 refine O.callPN (us := [.agg #[.int .i64 rv_4.2.2.Ring, .slice p_4 rv_4.2.2.Starts.length c_4, .slice p_5 rv_4.2.2.Events.length c_5], .int .i64 rv_2, .agg #[.int .i64 rv_5.1.Pre, .int .i64 rv_5.1.Home, .int .i64 rv_5.1.First, .int .i64 rv_5.1.Send]]) ca_32 hF hS (slave_Sets_ok hS.stab rv_4.2.2 rv_2 rv_5.1 hs_4 hs_5 hG KQ_4 hx_7) rfl rfl fun rv_8 h a w hF hS => ?_
 replace h := hk_4 _ h
 refine step hF (Y.move hF rfl) rfl fun a hF => step hF (Y.extract hF rfl rfl) rfl fun a hF => step hF (Y.extract hF rfl rfl) rfl fun a hF => step hF (Y.assign hF rfl) rfl fun a hF => step hF (Y.assign hF rfl) rfl fun a hF => nil (then_n (seq (seq ?_)))
 obtain ⟨t_1, ht_1, h⟩ := ndet h
 obtain ⟨t_2, ht_2, h⟩ := ndet h
 obtain ⟨t_3, ht_3, h⟩ := ndet h
 obtain ⟨t_4, ht_4, h⟩ := ndet h
 obtain ⟨t_5, ht_5, h⟩ := ndet h
 obtain ⟨t_6, ht_6, h⟩ := ndet h
 refine drawsV 39 (.flt 0 (.flt 1 (.flt 2 (.flt 3 (.flt 4 (.flt 5 (.flt 6 (.flt 7 (.flt 8 (.alt 9 (.flt 10 (.flt 11 (.flt 12 (.flt 13 (.flt 14 (.alt 15 (.flt 16 (.flt 17 (.flt 18 (.flt 19 (.flt 20 (.alt 21 (.flt 22 (.flt 23 (.flt 24 (.flt 25 (.flt 26 (.alt 27 (.flt 28 (.flt 29 (.flt 30 (.flt 31 (.flt 33 (.flt 34 (.flt 35 (.flt 36 (.alt 32 (.flt 37 (.flt 38 .done)) .stop))))))))) .stop)))))) .stop)))))) .stop)))))) .stop)))))))))) mixed_ (by kernel_rfl) (fun w => St w0 D0 Dv [(1, .cells b [.int .i64 l.Ring, .slice p l.Starts.length c, .slice p_1 l.Events.length c_1] 25), (2, .cells b_1 [.int .i64 n.a0, .int .i64 n.a1] 64), (3, .cells b_2 [.int .i64 rv_4.2.1.Shown, .int .i64 rv_4.2.1.Last] 57), (4, .cells b_3 [.int .i64 rv_4.2.2.Ring, .slice p_4 rv_4.2.2.Starts.length c_4, .slice p_5 rv_4.2.2.Events.length c_5] 25), (5, .cells b_4 [.int .i64 rv_5.1.Pre, .int .i64 rv_5.1.Home, .int .i64 rv_5.1.First, .int .i64 rv_5.1.Send] 49)] w) (fun a w => Frm 175 [] [(2, .slice p_2 bits.length c_2), (3, .pointer (some ⟨b, 0, none⟩)), (6, .bool false), (7, .int .i64 rv_2), (10, .pointer (some ⟨b_2, 0, none⟩)), (11, .pointer (some ⟨b_3, 0, none⟩)), (12, .pointer (some ⟨b_4, 0, none⟩)), (14, .bool rv_8.1), (15, .int .i64 rv_8.2), (104, .bool t_6)] a ∧ St w0 D0 Dv [(1, .cells b [.int .i64 l.Ring, .slice p l.Starts.length c, .slice p_1 l.Events.length c_1] 25), (2, .cells b_1 [.int .i64 n.a0, .int .i64 n.a1] 64), (3, .cells b_2 [.int .i64 rv_4.2.1.Shown, .int .i64 rv_4.2.1.Last] 57), (4, .cells b_3 [.int .i64 rv_4.2.2.Ring, .slice p_4 rv_4.2.2.Starts.length c_4, .slice p_5 rv_4.2.2.Events.length c_5] 25), (5, .cells b_4 [.int .i64 rv_5.1.Pre, .int .i64 rv_5.1.Home, .int .i64 rv_5.1.First, .int .i64 rv_5.1.Send] 49)] w) (hS.weak (ms := [(1, .cells b [.int .i64 l.Ring, .slice p l.Starts.length c, .slice p_1 l.Events.length c_1] 25), (2, .cells b_1 [.int .i64 n.a0, .int .i64 n.a1] 64), (3, .cells b_2 [.int .i64 rv_4.2.1.Shown, .int .i64 rv_4.2.1.Last] 57), (4, .cells b_3 [.int .i64 rv_4.2.2.Ring, .slice p_4 rv_4.2.2.Starts.length c_4, .slice p_5 rv_4.2.2.Events.length c_5] 25), (5, .cells b_4 [.int .i64 rv_5.1.Pre, .int .i64 rv_5.1.Home, .int .i64 rv_5.1.First, .int .i64 rv_5.1.Send] 49)]) ⟨rfl, rfl, rfl, rfl, rfl, trivial⟩).drew (fun _ _ _ _ h => h) ?_ ?_
 ·replace hS := hS.drew
  have hle0 := hS.le
  rcases bcases (rv_8.2 != 0) with hbv_4 | hbv_4
  ·skip
   replace ht_1 := cond_t ht_1 hbv_4
   obtain rfl := some_inj ht_1
   replace ht_2 := cond_t ht_2 rfl
   obtain rfl := some_inj ht_2
   replace ht_3 := cond_t ht_3 rfl
   obtain rfl := some_inj ht_3
   replace ht_4 := cond_t ht_4 rfl
   obtain rfl := some_inj ht_4
   replace ht_5 := cond_t ht_5 rfl
   obtain rfl := some_inj ht_5
   replace ht_6 := cond_t ht_6 rfl
   obtain rfl := some_inj ht_6
   refine stepV (i := 0) rfl hF (fun w hS => Y.move hF rfl) rfl fun a hF => stepV (i := 1) rfl hF (fun w hS => Y.neq hF rfl rfl) rfl fun a hF => stepV (i := 2) rfl hF (fun w hS => Y.move hF rfl) rfl fun a hF => stepV_off (i := 3) rfl hF rfl rfl hbv_4 rfl fun a hF => stepV_off (i := 4) rfl hF rfl rfl hbv_4 rfl fun a hF => stepV (i := 5) rfl hF (fun w hS => Y.pick_t hF rfl hbv_4 rfl) rfl fun a hF => stepV (i := 6) rfl hF (fun w hS => Y.move hF rfl) rfl fun a hF => stepV_off (i := 7) rfl hF rfl rfl rfl rfl fun a hF => stepV_off (i := 8) rfl hF rfl rfl rfl rfl fun a hF => oneV (i := 9) rfl ?_ trivial
   refine guard_off hF rfl rfl rfl rfl fun a hF => nil (then_n ⟨hS.weak ⟨rfl, rfl, rfl, rfl, rfl, trivial⟩, ?_⟩)
   refine stepV_off (i := 10) rfl hF rfl rfl rfl rfl fun a hF => stepV (i := 11) rfl hF (fun w hS => Y.pick_t hF rfl rfl rfl) rfl fun a hF => stepV (i := 12) rfl hF (fun w hS => Y.move hF rfl) rfl fun a hF => stepV_off (i := 13) rfl hF rfl rfl rfl rfl fun a hF => stepV_off (i := 14) rfl hF rfl rfl rfl rfl fun a hF => oneV (i := 15) rfl ?_ trivial
   refine guard_off hF rfl rfl rfl rfl fun a hF => nil (then_n ⟨hS.weak ⟨rfl, rfl, rfl, rfl, rfl, trivial⟩, ?_⟩)
   refine stepV_off (i := 16) rfl hF rfl rfl rfl rfl fun a hF => stepV (i := 17) rfl hF (fun w hS => Y.pick_t hF rfl rfl rfl) rfl fun a hF => stepV (i := 18) rfl hF (fun w hS => Y.move hF rfl) rfl fun a hF => stepV_off (i := 19) rfl hF rfl rfl rfl rfl fun a hF => stepV_off (i := 20) rfl hF rfl rfl rfl rfl fun a hF => oneV (i := 21) rfl ?_ trivial
   refine guard_off hF rfl rfl rfl rfl fun a hF => nil (then_n ⟨hS.weak ⟨rfl, rfl, rfl, rfl, rfl, trivial⟩, ?_⟩)
   refine stepV_off (i := 22) rfl hF rfl rfl rfl rfl fun a hF => stepV (i := 23) rfl hF (fun w hS => Y.pick_t hF rfl rfl rfl) rfl fun a hF => stepV (i := 24) rfl hF (fun w hS => Y.move hF rfl) rfl fun a hF => stepV_off (i := 25) rfl hF rfl rfl rfl rfl fun a hF => stepV_off (i := 26) rfl hF rfl rfl rfl rfl fun a hF => oneV (i := 27) rfl ?_ trivial
   refine guard_off hF rfl rfl rfl rfl fun a hF => nil (then_n ⟨hS.weak ⟨rfl, rfl, rfl, rfl, rfl, trivial⟩, ?_⟩)
   refine stepV_off (i := 28) rfl hF rfl rfl rfl rfl fun a hF => stepV (i := 29) rfl hF (fun w hS => Y.pick_t hF rfl rfl rfl) rfl fun a hF => stepV (i := 30) rfl hF (fun w hS => Y.move hF rfl) rfl fun a hF => stepV_off (i := 31) rfl hF rfl rfl rfl rfl fun a hF => stepV_off (i := 33) rfl hF rfl rfl rfl rfl fun a hF => stepV_off (i := 34) rfl hF rfl rfl rfl rfl fun a hF => stepV_off (i := 35) rfl hF rfl rfl rfl rfl fun a hF => stepV_off (i := 36) rfl hF rfl rfl rfl rfl fun a hF => oneV (i := 32) rfl ?_ trivial
   refine guard_off hF rfl rfl rfl rfl fun a hF => nil (then_n ⟨hS.weak ⟨rfl, rfl, rfl, rfl, rfl, trivial⟩, ?_⟩)
   refine stepV_off (i := 37) rfl hF rfl rfl rfl rfl fun a hF => stepV (i := 38) rfl hF (fun w hS => Y.pick_t hF rfl rfl rfl) rfl fun a hF => toTailV ⟨hF.weak ⟨rfl, rfl, rfl, rfl, rfl, rfl, rfl, rfl, rfl, rfl, trivial⟩, hS.weak ⟨rfl, rfl, rfl, rfl, rfl, trivial⟩⟩
  replace ht_1 := cond_f ht_1 hbv_4
  obtain rfl := some_inj ht_1
  rcases bcases (!rv_8.1) with hbv_5 | hbv_5
  ·skip
   replace ht_2 := cond_t ht_2 hbv_5
   obtain rfl := some_inj ht_2
   replace ht_3 := cond_t ht_3 rfl
   obtain rfl := some_inj ht_3
   replace ht_4 := cond_t ht_4 rfl
   obtain rfl := some_inj ht_4
   replace ht_5 := cond_t ht_5 rfl
   obtain rfl := some_inj ht_5
   replace ht_6 := cond_t ht_6 rfl
   obtain rfl := some_inj ht_6
   refine stepV (i := 0) rfl hF (fun w hS => Y.move hF rfl) rfl fun a hF => stepV (i := 1) rfl hF (fun w hS => Y.neq hF rfl rfl) rfl fun a hF => stepV (i := 2) rfl hF (fun w hS => Y.move hF rfl) rfl fun a hF => stepV_on (i := 3) rfl hF rfl rfl hbv_4 (fun w hS => Y.move hF rfl) rfl fun a hF => stepV_on (i := 4) rfl hF rfl rfl hbv_4 (fun w hS => Y.not hF rfl) rfl fun a hF => stepV (i := 5) rfl hF (fun w hS => Y.pick_f hF rfl hbv_4 rfl) rfl fun a hF => stepV (i := 6) rfl hF (fun w hS => Y.move hF rfl) rfl fun a hF => stepV_off (i := 7) rfl hF rfl rfl hbv_5 rfl fun a hF => stepV_off (i := 8) rfl hF rfl rfl hbv_5 rfl fun a hF => oneV (i := 9) rfl ?_ trivial
   refine guard_off hF rfl rfl hbv_5 rfl fun a hF => nil (then_n ⟨hS.weak ⟨rfl, rfl, rfl, rfl, rfl, trivial⟩, ?_⟩)
   refine stepV_off (i := 10) rfl hF rfl rfl hbv_5 rfl fun a hF => stepV (i := 11) rfl hF (fun w hS => Y.pick_t hF rfl hbv_5 rfl) rfl fun a hF => stepV (i := 12) rfl hF (fun w hS => Y.move hF rfl) rfl fun a hF => stepV_off (i := 13) rfl hF rfl rfl rfl rfl fun a hF => stepV_off (i := 14) rfl hF rfl rfl rfl rfl fun a hF => oneV (i := 15) rfl ?_ trivial
   refine guard_off hF rfl rfl rfl rfl fun a hF => nil (then_n ⟨hS.weak ⟨rfl, rfl, rfl, rfl, rfl, trivial⟩, ?_⟩)
   refine stepV_off (i := 16) rfl hF rfl rfl rfl rfl fun a hF => stepV (i := 17) rfl hF (fun w hS => Y.pick_t hF rfl rfl rfl) rfl fun a hF => stepV (i := 18) rfl hF (fun w hS => Y.move hF rfl) rfl fun a hF => stepV_off (i := 19) rfl hF rfl rfl rfl rfl fun a hF => stepV_off (i := 20) rfl hF rfl rfl rfl rfl fun a hF => oneV (i := 21) rfl ?_ trivial
   refine guard_off hF rfl rfl rfl rfl fun a hF => nil (then_n ⟨hS.weak ⟨rfl, rfl, rfl, rfl, rfl, trivial⟩, ?_⟩)
   refine stepV_off (i := 22) rfl hF rfl rfl rfl rfl fun a hF => stepV (i := 23) rfl hF (fun w hS => Y.pick_t hF rfl rfl rfl) rfl fun a hF => stepV (i := 24) rfl hF (fun w hS => Y.move hF rfl) rfl fun a hF => stepV_off (i := 25) rfl hF rfl rfl rfl rfl fun a hF => stepV_off (i := 26) rfl hF rfl rfl rfl rfl fun a hF => oneV (i := 27) rfl ?_ trivial
   refine guard_off hF rfl rfl rfl rfl fun a hF => nil (then_n ⟨hS.weak ⟨rfl, rfl, rfl, rfl, rfl, trivial⟩, ?_⟩)
   refine stepV_off (i := 28) rfl hF rfl rfl rfl rfl fun a hF => stepV (i := 29) rfl hF (fun w hS => Y.pick_t hF rfl rfl rfl) rfl fun a hF => stepV (i := 30) rfl hF (fun w hS => Y.move hF rfl) rfl fun a hF => stepV_off (i := 31) rfl hF rfl rfl rfl rfl fun a hF => stepV_off (i := 33) rfl hF rfl rfl rfl rfl fun a hF => stepV_off (i := 34) rfl hF rfl rfl rfl rfl fun a hF => stepV_off (i := 35) rfl hF rfl rfl rfl rfl fun a hF => stepV_off (i := 36) rfl hF rfl rfl rfl rfl fun a hF => oneV (i := 32) rfl ?_ trivial
   refine guard_off hF rfl rfl rfl rfl fun a hF => nil (then_n ⟨hS.weak ⟨rfl, rfl, rfl, rfl, rfl, trivial⟩, ?_⟩)
   refine stepV_off (i := 37) rfl hF rfl rfl rfl rfl fun a hF => stepV (i := 38) rfl hF (fun w hS => Y.pick_t hF rfl rfl rfl) rfl fun a hF => toTailV ⟨hF.weak ⟨rfl, rfl, rfl, rfl, rfl, rfl, rfl, rfl, rfl, rfl, trivial⟩, hS.weak ⟨rfl, rfl, rfl, rfl, rfl, trivial⟩⟩
  replace ht_2 := cond_f ht_2 hbv_5
  obtain ⟨rv_9, hx_8, ht_2⟩ := bind_some ht_2
  obtain rfl := some_inj ht_2
  rcases bcases (!rv_9) with hbv_6 | hbv_6
  ·skip
   replace ht_3 := cond_t ht_3 hbv_6
   obtain rfl := some_inj ht_3
   replace ht_4 := cond_t ht_4 rfl
   obtain rfl := some_inj ht_4
   replace ht_5 := cond_t ht_5 rfl
   obtain rfl := some_inj ht_5
   replace ht_6 := cond_t ht_6 rfl
   obtain rfl := some_inj ht_6
   refine stepV (i := 0) rfl hF (fun w hS => Y.move hF rfl) rfl fun a hF => stepV (i := 1) rfl hF (fun w hS => Y.neq hF rfl rfl) rfl fun a hF => stepV (i := 2) rfl hF (fun w hS => Y.move hF rfl) rfl fun a hF => stepV_on (i := 3) rfl hF rfl rfl hbv_4 (fun w hS => Y.move hF rfl) rfl fun a hF => stepV_on (i := 4) rfl hF rfl rfl hbv_4 (fun w hS => Y.not hF rfl) rfl fun a hF => stepV (i := 5) rfl hF (fun w hS => Y.pick_f hF rfl hbv_4 rfl) rfl fun a hF => stepV (i := 6) rfl hF (fun w hS => Y.move hF rfl) rfl fun a hF => stepV_on (i := 7) rfl hF rfl rfl hbv_5 (fun w hS => Y.fieldAddr fo_49_0 hF rfl) rfl fun a hF => stepV_on (i := 8) rfl hF rfl rfl hbv_5 (fun w hS => Y.load1L 5 sz_3 hF rfl hS rfl rfl) rfl fun a hF => oneV (i := 9) rfl ?_ trivial
   refine guard_on hF rfl rfl hbv_5 (O.callP (us := [.int .i64 rv_5.1.Pre, .int .i64 (-1), .int .i64 1]) ca_50 hF hS (r0Lies_ok hS.stab rv_5.1.Pre (-1) 1 rv_9 hx_8) rfl rfl fun a w hF hS => nil (then_n ⟨hS.weak ⟨rfl, rfl, rfl, rfl, rfl, trivial⟩, ?_⟩))
   refine stepV_on (i := 10) rfl hF rfl rfl hbv_5 (fun w hS => Y.not hF rfl) rfl fun a hF => stepV (i := 11) rfl hF (fun w hS => Y.pick_f hF rfl hbv_5 rfl) rfl fun a hF => stepV (i := 12) rfl hF (fun w hS => Y.move hF rfl) rfl fun a hF => stepV_off (i := 13) rfl hF rfl rfl hbv_6 rfl fun a hF => stepV_off (i := 14) rfl hF rfl rfl hbv_6 rfl fun a hF => oneV (i := 15) rfl ?_ trivial
   refine guard_off hF rfl rfl hbv_6 rfl fun a hF => nil (then_n ⟨hS.weak ⟨rfl, rfl, rfl, rfl, rfl, trivial⟩, ?_⟩)
   refine stepV_off (i := 16) rfl hF rfl rfl hbv_6 rfl fun a hF => stepV (i := 17) rfl hF (fun w hS => Y.pick_t hF rfl hbv_6 rfl) rfl fun a hF => stepV (i := 18) rfl hF (fun w hS => Y.move hF rfl) rfl fun a hF => stepV_off (i := 19) rfl hF rfl rfl rfl rfl fun a hF => stepV_off (i := 20) rfl hF rfl rfl rfl rfl fun a hF => oneV (i := 21) rfl ?_ trivial
   refine guard_off hF rfl rfl rfl rfl fun a hF => nil (then_n ⟨hS.weak ⟨rfl, rfl, rfl, rfl, rfl, trivial⟩, ?_⟩)
   refine stepV_off (i := 22) rfl hF rfl rfl rfl rfl fun a hF => stepV (i := 23) rfl hF (fun w hS => Y.pick_t hF rfl rfl rfl) rfl fun a hF => stepV (i := 24) rfl hF (fun w hS => Y.move hF rfl) rfl fun a hF => stepV_off (i := 25) rfl hF rfl rfl rfl rfl fun a hF => stepV_off (i := 26) rfl hF rfl rfl rfl rfl fun a hF => oneV (i := 27) rfl ?_ trivial
   refine guard_off hF rfl rfl rfl rfl fun a hF => nil (then_n ⟨hS.weak ⟨rfl, rfl, rfl, rfl, rfl, trivial⟩, ?_⟩)
   refine stepV_off (i := 28) rfl hF rfl rfl rfl rfl fun a hF => stepV (i := 29) rfl hF (fun w hS => Y.pick_t hF rfl rfl rfl) rfl fun a hF => stepV (i := 30) rfl hF (fun w hS => Y.move hF rfl) rfl fun a hF => stepV_off (i := 31) rfl hF rfl rfl rfl rfl fun a hF => stepV_off (i := 33) rfl hF rfl rfl rfl rfl fun a hF => stepV_off (i := 34) rfl hF rfl rfl rfl rfl fun a hF => stepV_off (i := 35) rfl hF rfl rfl rfl rfl fun a hF => stepV_off (i := 36) rfl hF rfl rfl rfl rfl fun a hF => oneV (i := 32) rfl ?_ trivial
   refine guard_off hF rfl rfl rfl rfl fun a hF => nil (then_n ⟨hS.weak ⟨rfl, rfl, rfl, rfl, rfl, trivial⟩, ?_⟩)
   refine stepV_off (i := 37) rfl hF rfl rfl rfl rfl fun a hF => stepV (i := 38) rfl hF (fun w hS => Y.pick_t hF rfl rfl rfl) rfl fun a hF => toTailV ⟨hF.weak ⟨rfl, rfl, rfl, rfl, rfl, rfl, rfl, rfl, rfl, rfl, trivial⟩, hS.weak ⟨rfl, rfl, rfl, rfl, rfl, trivial⟩⟩
  replace ht_3 := cond_f ht_3 hbv_6
  obtain ⟨rv_10, hx_9, ht_3⟩ := bind_some ht_3
  obtain rfl := some_inj ht_3
  rcases bcases (!rv_10) with hbv_7 | hbv_7
  ·skip
   replace ht_4 := cond_t ht_4 hbv_7
   obtain rfl := some_inj ht_4
   replace ht_5 := cond_t ht_5 rfl
   obtain rfl := some_inj ht_5
   replace ht_6 := cond_t ht_6 rfl
   obtain rfl := some_inj ht_6
   refine stepV (i := 0) rfl hF (fun w hS => Y.move hF rfl) rfl fun a hF => stepV (i := 1) rfl hF (fun w hS => Y.neq hF rfl rfl) rfl fun a hF => stepV (i := 2) rfl hF (fun w hS => Y.move hF rfl) rfl fun a hF => stepV_on (i := 3) rfl hF rfl rfl hbv_4 (fun w hS => Y.move hF rfl) rfl fun a hF => stepV_on (i := 4) rfl hF rfl rfl hbv_4 (fun w hS => Y.not hF rfl) rfl fun a hF => stepV (i := 5) rfl hF (fun w hS => Y.pick_f hF rfl hbv_4 rfl) rfl fun a hF => stepV (i := 6) rfl hF (fun w hS => Y.move hF rfl) rfl fun a hF => stepV_on (i := 7) rfl hF rfl rfl hbv_5 (fun w hS => Y.fieldAddr fo_49_0 hF rfl) rfl fun a hF => stepV_on (i := 8) rfl hF rfl rfl hbv_5 (fun w hS => Y.load1L 5 sz_3 hF rfl hS rfl rfl) rfl fun a hF => oneV (i := 9) rfl ?_ trivial
   refine guard_on hF rfl rfl hbv_5 (O.callP (us := [.int .i64 rv_5.1.Pre, .int .i64 (-1), .int .i64 1]) ca_50 hF hS (r0Lies_ok hS.stab rv_5.1.Pre (-1) 1 rv_9 hx_8) rfl rfl fun a w hF hS => nil (then_n ⟨hS.weak ⟨rfl, rfl, rfl, rfl, rfl, trivial⟩, ?_⟩))
   refine stepV_on (i := 10) rfl hF rfl rfl hbv_5 (fun w hS => Y.not hF rfl) rfl fun a hF => stepV (i := 11) rfl hF (fun w hS => Y.pick_f hF rfl hbv_5 rfl) rfl fun a hF => stepV (i := 12) rfl hF (fun w hS => Y.move hF rfl) rfl fun a hF => stepV_on (i := 13) rfl hF rfl rfl hbv_6 (fun w hS => Y.fieldAddr fo_49_1 hF rfl) rfl fun a hF => stepV_on (i := 14) rfl hF rfl rfl hbv_6 (fun w hS => Y.load1L 5 sz_3 hF rfl hS rfl rfl) rfl fun a hF => oneV (i := 15) rfl ?_ trivial
   refine guard_on hF rfl rfl hbv_6 (O.callP (us := [.int .i64 rv_5.1.Home, .int .i64 0, .int .i64 60]) ca_50 hF hS (r0Lies_ok hS.stab rv_5.1.Home 0 60 rv_10 hx_9) rfl rfl fun a w hF hS => nil (then_n ⟨hS.weak ⟨rfl, rfl, rfl, rfl, rfl, trivial⟩, ?_⟩))
   refine stepV_on (i := 16) rfl hF rfl rfl hbv_6 (fun w hS => Y.not hF rfl) rfl fun a hF => stepV (i := 17) rfl hF (fun w hS => Y.pick_f hF rfl hbv_6 rfl) rfl fun a hF => stepV (i := 18) rfl hF (fun w hS => Y.move hF rfl) rfl fun a hF => stepV_off (i := 19) rfl hF rfl rfl hbv_7 rfl fun a hF => stepV_off (i := 20) rfl hF rfl rfl hbv_7 rfl fun a hF => oneV (i := 21) rfl ?_ trivial
   refine guard_off hF rfl rfl hbv_7 rfl fun a hF => nil (then_n ⟨hS.weak ⟨rfl, rfl, rfl, rfl, rfl, trivial⟩, ?_⟩)
   refine stepV_off (i := 22) rfl hF rfl rfl hbv_7 rfl fun a hF => stepV (i := 23) rfl hF (fun w hS => Y.pick_t hF rfl hbv_7 rfl) rfl fun a hF => stepV (i := 24) rfl hF (fun w hS => Y.move hF rfl) rfl fun a hF => stepV_off (i := 25) rfl hF rfl rfl rfl rfl fun a hF => stepV_off (i := 26) rfl hF rfl rfl rfl rfl fun a hF => oneV (i := 27) rfl ?_ trivial
   refine guard_off hF rfl rfl rfl rfl fun a hF => nil (then_n ⟨hS.weak ⟨rfl, rfl, rfl, rfl, rfl, trivial⟩, ?_⟩)
   refine stepV_off (i := 28) rfl hF rfl rfl rfl rfl fun a hF => stepV (i := 29) rfl hF (fun w hS => Y.pick_t hF rfl rfl rfl) rfl fun a hF => stepV (i := 30) rfl hF (fun w hS => Y.move hF rfl) rfl fun a hF => stepV_off (i := 31) rfl hF rfl rfl rfl rfl fun a hF => stepV_off (i := 33) rfl hF rfl rfl rfl rfl fun a hF => stepV_off (i := 34) rfl hF rfl rfl rfl rfl fun a hF => stepV_off (i := 35) rfl hF rfl rfl rfl rfl fun a hF => stepV_off (i := 36) rfl hF rfl rfl rfl rfl fun a hF => oneV (i := 32) rfl ?_ trivial
   refine guard_off hF rfl rfl rfl rfl fun a hF => nil (then_n ⟨hS.weak ⟨rfl, rfl, rfl, rfl, rfl, trivial⟩, ?_⟩)
   refine stepV_off (i := 37) rfl hF rfl rfl rfl rfl fun a hF => stepV (i := 38) rfl hF (fun w hS => Y.pick_t hF rfl rfl rfl) rfl fun a hF => toTailV ⟨hF.weak ⟨rfl, rfl, rfl, rfl, rfl, rfl, rfl, rfl, rfl, rfl, trivial⟩, hS.weak ⟨rfl, rfl, rfl, rfl, rfl, trivial⟩⟩
  replace ht_4 := cond_f ht_4 hbv_7
  obtain ⟨rv_11, hx_10, ht_4⟩ := bind_some ht_4
  obtain rfl := some_inj ht_4
  rcases bcases (!rv_11) with hbv_8 | hbv_8
  ·skip
   replace ht_5 := cond_t ht_5 hbv_8
   obtain rfl := some_inj ht_5
   replace ht_6 := cond_t ht_6 rfl
   obtain rfl := some_inj ht_6
   refine stepV (i := 0) rfl hF (fun w hS => Y.move hF rfl) rfl fun a hF => stepV (i := 1) rfl hF (fun w hS => Y.neq hF rfl rfl) rfl fun a hF => stepV (i := 2) rfl hF (fun w hS => Y.move hF rfl) rfl fun a hF => stepV_on (i := 3) rfl hF rfl rfl hbv_4 (fun w hS => Y.move hF rfl) rfl fun a hF => stepV_on (i := 4) rfl hF rfl rfl hbv_4 (fun w hS => Y.not hF rfl) rfl fun a hF => stepV (i := 5) rfl hF (fun w hS => Y.pick_f hF rfl hbv_4 rfl) rfl fun a hF => stepV (i := 6) rfl hF (fun w hS => Y.move hF rfl) rfl fun a hF => stepV_on (i := 7) rfl hF rfl rfl hbv_5 (fun w hS => Y.fieldAddr fo_49_0 hF rfl) rfl fun a hF => stepV_on (i := 8) rfl hF rfl rfl hbv_5 (fun w hS => Y.load1L 5 sz_3 hF rfl hS rfl rfl) rfl fun a hF => oneV (i := 9) rfl ?_ trivial
   refine guard_on hF rfl rfl hbv_5 (O.callP (us := [.int .i64 rv_5.1.Pre, .int .i64 (-1), .int .i64 1]) ca_50 hF hS (r0Lies_ok hS.stab rv_5.1.Pre (-1) 1 rv_9 hx_8) rfl rfl fun a w hF hS => nil (then_n ⟨hS.weak ⟨rfl, rfl, rfl, rfl, rfl, trivial⟩, ?_⟩))
   refine stepV_on (i := 10) rfl hF rfl rfl hbv_5 (fun w hS => Y.not hF rfl) rfl fun a hF => stepV (i := 11) rfl hF (fun w hS => Y.pick_f hF rfl hbv_5 rfl) rfl fun a hF => stepV (i := 12) rfl hF (fun w hS => Y.move hF rfl) rfl fun a hF => stepV_on (i := 13) rfl hF rfl rfl hbv_6 (fun w hS => Y.fieldAddr fo_49_1 hF rfl) rfl fun a hF => stepV_on (i := 14) rfl hF rfl rfl hbv_6 (fun w hS => Y.load1L 5 sz_3 hF rfl hS rfl rfl) rfl fun a hF => oneV (i := 15) rfl ?_ trivial
   refine guard_on hF rfl rfl hbv_6 (O.callP (us := [.int .i64 rv_5.1.Home, .int .i64 0, .int .i64 60]) ca_50 hF hS (r0Lies_ok hS.stab rv_5.1.Home 0 60 rv_10 hx_9) rfl rfl fun a w hF hS => nil (then_n ⟨hS.weak ⟨rfl, rfl, rfl, rfl, rfl, trivial⟩, ?_⟩))
   refine stepV_on (i := 16) rfl hF rfl rfl hbv_6 (fun w hS => Y.not hF rfl) rfl fun a hF => stepV (i := 17) rfl hF (fun w hS => Y.pick_f hF rfl hbv_6 rfl) rfl fun a hF => stepV (i := 18) rfl hF (fun w hS => Y.move hF rfl) rfl fun a hF => stepV_on (i := 19) rfl hF rfl rfl hbv_7 (fun w hS => Y.fieldAddr fo_49_2 hF rfl) rfl fun a hF => stepV_on (i := 20) rfl hF rfl rfl hbv_7 (fun w hS => Y.load1L 5 sz_3 hF rfl hS rfl rfl) rfl fun a hF => oneV (i := 21) rfl ?_ trivial
   refine guard_on hF rfl rfl hbv_7 (O.callP (us := [.int .i64 rv_5.1.First, .int .i64 0, .int .i64 1]) ca_50 hF hS (r0Lies_ok hS.stab rv_5.1.First 0 1 rv_11 hx_10) rfl rfl fun a w hF hS => nil (then_n ⟨hS.weak ⟨rfl, rfl, rfl, rfl, rfl, trivial⟩, ?_⟩))
   refine stepV_on (i := 22) rfl hF rfl rfl hbv_7 (fun w hS => Y.not hF rfl) rfl fun a hF => stepV (i := 23) rfl hF (fun w hS => Y.pick_f hF rfl hbv_7 rfl) rfl fun a hF => stepV (i := 24) rfl hF (fun w hS => Y.move hF rfl) rfl fun a hF => stepV_off (i := 25) rfl hF rfl rfl hbv_8 rfl fun a hF => stepV_off (i := 26) rfl hF rfl rfl hbv_8 rfl fun a hF => oneV (i := 27) rfl ?_ trivial
   refine guard_off hF rfl rfl hbv_8 rfl fun a hF => nil (then_n ⟨hS.weak ⟨rfl, rfl, rfl, rfl, rfl, trivial⟩, ?_⟩)
   refine stepV_off (i := 28) rfl hF rfl rfl hbv_8 rfl fun a hF => stepV (i := 29) rfl hF (fun w hS => Y.pick_t hF rfl hbv_8 rfl) rfl fun a hF => stepV (i := 30) rfl hF (fun w hS => Y.move hF rfl) rfl fun a hF => stepV_off (i := 31) rfl hF rfl rfl rfl rfl fun a hF => stepV_off (i := 33) rfl hF rfl rfl rfl rfl fun a hF => stepV_off (i := 34) rfl hF rfl rfl rfl rfl fun a hF => stepV_off (i := 35) rfl hF rfl rfl rfl rfl fun a hF => stepV_off (i := 36) rfl hF rfl rfl rfl rfl fun a hF => oneV (i := 32) rfl ?_ trivial
   refine guard_off hF rfl rfl rfl rfl fun a hF => nil (then_n ⟨hS.weak ⟨rfl, rfl, rfl, rfl, rfl, trivial⟩, ?_⟩)
   refine stepV_off (i := 37) rfl hF rfl rfl rfl rfl fun a hF => stepV (i := 38) rfl hF (fun w hS => Y.pick_t hF rfl rfl rfl) rfl fun a hF => toTailV ⟨hF.weak ⟨rfl, rfl, rfl, rfl, rfl, rfl, rfl, rfl, rfl, rfl, trivial⟩, hS.weak ⟨rfl, rfl, rfl, rfl, rfl, trivial⟩⟩
  replace ht_5 := cond_f ht_5 hbv_8
  obtain ⟨rv_12, hx_11, ht_5⟩ := bind_some ht_5
  obtain rfl := some_inj ht_5
  rcases bcases (!rv_12) with hbv_9 | hbv_9
  ·skip
   replace ht_6 := cond_t ht_6 hbv_9
   obtain rfl := some_inj ht_6
   refine stepV (i := 0) rfl hF (fun w hS => Y.move hF rfl) rfl fun a hF => stepV (i := 1) rfl hF (fun w hS => Y.neq hF rfl rfl) rfl fun a hF => stepV (i := 2) rfl hF (fun w hS => Y.move hF rfl) rfl fun a hF => stepV_on (i := 3) rfl hF rfl rfl hbv_4 (fun w hS => Y.move hF rfl) rfl fun a hF => stepV_on (i := 4) rfl hF rfl rfl hbv_4 (fun w hS => Y.not hF rfl) rfl fun a hF => stepV (i := 5) rfl hF (fun w hS => Y.pick_f hF rfl hbv_4 rfl) rfl fun a hF => stepV (i := 6) rfl hF (fun w hS => Y.move hF rfl) rfl fun a hF => stepV_on (i := 7) rfl hF rfl rfl hbv_5 (fun w hS => Y.fieldAddr fo_49_0 hF rfl) rfl fun a hF => stepV_on (i := 8) rfl hF rfl rfl hbv_5 (fun w hS => Y.load1L 5 sz_3 hF rfl hS rfl rfl) rfl fun a hF => oneV (i := 9) rfl ?_ trivial
   refine guard_on hF rfl rfl hbv_5 (O.callP (us := [.int .i64 rv_5.1.Pre, .int .i64 (-1), .int .i64 1]) ca_50 hF hS (r0Lies_ok hS.stab rv_5.1.Pre (-1) 1 rv_9 hx_8) rfl rfl fun a w hF hS => nil (then_n ⟨hS.weak ⟨rfl, rfl, rfl, rfl, rfl, trivial⟩, ?_⟩))
   refine stepV_on (i := 10) rfl hF rfl rfl hbv_5 (fun w hS => Y.not hF rfl) rfl fun a hF => stepV (i := 11) rfl hF (fun w hS => Y.pick_f hF rfl hbv_5 rfl) rfl fun a hF => stepV (i := 12) rfl hF (fun w hS => Y.move hF rfl) rfl fun a hF => stepV_on (i := 13) rfl hF rfl rfl hbv_6 (fun w hS => Y.fieldAddr fo_49_1 hF rfl) rfl fun a hF => stepV_on (i := 14) rfl hF rfl rfl hbv_6 (fun w hS => Y.load1L 5 sz_3 hF rfl hS rfl rfl) rfl fun a hF => oneV (i := 15) rfl ?_ trivial
   refine guard_on hF rfl rfl hbv_6 (O.callP (us := [.int .i64 rv_5.1.Home, .int .i64 0, .int .i64 60]) ca_50 hF hS (r0Lies_ok hS.stab rv_5.1.Home 0 60 rv_10 hx_9) rfl rfl fun a w hF hS => nil (then_n ⟨hS.weak ⟨rfl, rfl, rfl, rfl, rfl, trivial⟩, ?_⟩))
   refine stepV_on (i := 16) rfl hF rfl rfl hbv_6 (fun w hS => Y.not hF rfl) rfl fun a hF => stepV (i := 17) rfl hF (fun w hS => Y.pick_f hF rfl hbv_6 rfl) rfl fun a hF => stepV (i := 18) rfl hF (fun w hS => Y.move hF rfl) rfl fun a hF => stepV_on (i := 19) rfl hF rfl rfl hbv_7 (fun w hS => Y.fieldAddr fo_49_2 hF rfl) rfl fun a hF => stepV_on (i := 20) rfl hF rfl rfl hbv_7 (fun w hS => Y.load1L 5 sz_3 hF rfl hS rfl rfl) rfl fun a hF => oneV (i := 21) rfl ?_ trivial
   refine guard_on hF rfl rfl hbv_7 (O.callP (us := [.int .i64 rv_5.1.First, .int .i64 0, .int .i64 1]) ca_50 hF hS (r0Lies_ok hS.stab rv_5.1.First 0 1 rv_11 hx_10) rfl rfl fun a w hF hS => nil (then_n ⟨hS.weak ⟨rfl, rfl, rfl, rfl, rfl, trivial⟩, ?_⟩))
   refine stepV_on (i := 22) rfl hF rfl rfl hbv_7 (fun w hS => Y.not hF rfl) rfl fun a hF => stepV (i := 23) rfl hF (fun w hS => Y.pick_f hF rfl hbv_7 rfl) rfl fun a hF => stepV (i := 24) rfl hF (fun w hS => Y.move hF rfl) rfl fun a hF => stepV_on (i := 25) rfl hF rfl rfl hbv_8 (fun w hS => Y.fieldAddr fo_49_3 hF rfl) rfl fun a hF => stepV_on (i := 26) rfl hF rfl rfl hbv_8 (fun w hS => Y.load1L 5 sz_3 hF rfl hS rfl rfl) rfl fun a hF => oneV (i := 27) rfl ?_ trivial
   refine guard_on hF rfl rfl hbv_8 (O.callP (us := [.int .i64 rv_5.1.Send, .int .i64 0, .int .i64 60]) ca_50 hF hS (r0Lies_ok hS.stab rv_5.1.Send 0 60 rv_12 hx_11) rfl rfl fun a w hF hS => nil (then_n ⟨hS.weak ⟨rfl, rfl, rfl, rfl, rfl, trivial⟩, ?_⟩))
   refine stepV_on (i := 28) rfl hF rfl rfl hbv_8 (fun w hS => Y.not hF rfl) rfl fun a hF => stepV (i := 29) rfl hF (fun w hS => Y.pick_f hF rfl hbv_8 rfl) rfl fun a hF => stepV (i := 30) rfl hF (fun w hS => Y.move hF rfl) rfl fun a hF => stepV_off (i := 31) rfl hF rfl rfl hbv_9 rfl fun a hF => stepV_off (i := 33) rfl hF rfl rfl hbv_9 rfl fun a hF => stepV_off (i := 34) rfl hF rfl rfl hbv_9 rfl fun a hF => stepV_off (i := 35) rfl hF rfl rfl hbv_9 rfl fun a hF => stepV_off (i := 36) rfl hF rfl rfl hbv_9 rfl fun a hF => oneV (i := 32) rfl ?_ trivial
   refine guard_off hF rfl rfl hbv_9 rfl fun a hF => nil (then_n ⟨hS.weak ⟨rfl, rfl, rfl, rfl, rfl, trivial⟩, ?_⟩)
   refine stepV_off (i := 37) rfl hF rfl rfl hbv_9 rfl fun a hF => stepV (i := 38) rfl hF (fun w hS => Y.pick_t hF rfl hbv_9 rfl) rfl fun a hF => toTailV ⟨hF.weak ⟨rfl, rfl, rfl, rfl, rfl, rfl, rfl, rfl, rfl, rfl, trivial⟩, hS.weak ⟨rfl, rfl, rfl, rfl, rfl, trivial⟩⟩
  replace ht_6 := cond_f ht_6 hbv_9
  obtain ⟨rv_13, hx_12, ht_6⟩ := bind_some ht_6
  obtain rfl := some_inj ht_6
  refine stepV (i := 0) rfl hF (fun w hS => Y.move hF rfl) rfl fun a hF => stepV (i := 1) rfl hF (fun w hS => Y.neq hF rfl rfl) rfl fun a hF => stepV (i := 2) rfl hF (fun w hS => Y.move hF rfl) rfl fun a hF => stepV_on (i := 3) rfl hF rfl rfl hbv_4 (fun w hS => Y.move hF rfl) rfl fun a hF => stepV_on (i := 4) rfl hF rfl rfl hbv_4 (fun w hS => Y.not hF rfl) rfl fun a hF => stepV (i := 5) rfl hF (fun w hS => Y.pick_f hF rfl hbv_4 rfl) rfl fun a hF => stepV (i := 6) rfl hF (fun w hS => Y.move hF rfl) rfl fun a hF => stepV_on (i := 7) rfl hF rfl rfl hbv_5 (fun w hS => Y.fieldAddr fo_49_0 hF rfl) rfl fun a hF => stepV_on (i := 8) rfl hF rfl rfl hbv_5 (fun w hS => Y.load1L 5 sz_3 hF rfl hS rfl rfl) rfl fun a hF => oneV (i := 9) rfl ?_ trivial
  refine guard_on hF rfl rfl hbv_5 (O.callP (us := [.int .i64 rv_5.1.Pre, .int .i64 (-1), .int .i64 1]) ca_50 hF hS (r0Lies_ok hS.stab rv_5.1.Pre (-1) 1 rv_9 hx_8) rfl rfl fun a w hF hS => nil (then_n ⟨hS.weak ⟨rfl, rfl, rfl, rfl, rfl, trivial⟩, ?_⟩))
  refine stepV_on (i := 10) rfl hF rfl rfl hbv_5 (fun w hS => Y.not hF rfl) rfl fun a hF => stepV (i := 11) rfl hF (fun w hS => Y.pick_f hF rfl hbv_5 rfl) rfl fun a hF => stepV (i := 12) rfl hF (fun w hS => Y.move hF rfl) rfl fun a hF => stepV_on (i := 13) rfl hF rfl rfl hbv_6 (fun w hS => Y.fieldAddr fo_49_1 hF rfl) rfl fun a hF => stepV_on (i := 14) rfl hF rfl rfl hbv_6 (fun w hS => Y.load1L 5 sz_3 hF rfl hS rfl rfl) rfl fun a hF => oneV (i := 15) rfl ?_ trivial
  refine guard_on hF rfl rfl hbv_6 (O.callP (us := [.int .i64 rv_5.1.Home, .int .i64 0, .int .i64 60]) ca_50 hF hS (r0Lies_ok hS.stab rv_5.1.Home 0 60 rv_10 hx_9) rfl rfl fun a w hF hS => nil (then_n ⟨hS.weak ⟨rfl, rfl, rfl, rfl, rfl, trivial⟩, ?_⟩))
  refine stepV_on (i := 16) rfl hF rfl rfl hbv_6 (fun w hS => Y.not hF rfl) rfl fun a hF => stepV (i := 17) rfl hF (fun w hS => Y.pick_f hF rfl hbv_6 rfl) rfl fun a hF => stepV (i := 18) rfl hF (fun w hS => Y.move hF rfl) rfl fun a hF => stepV_on (i := 19) rfl hF rfl rfl hbv_7 (fun w hS => Y.fieldAddr fo_49_2 hF rfl) rfl fun a hF => stepV_on (i := 20) rfl hF rfl rfl hbv_7 (fun w hS => Y.load1L 5 sz_3 hF rfl hS rfl rfl) rfl fun a hF => oneV (i := 21) rfl ?_ trivial
  refine guard_on hF rfl rfl hbv_7 (O.callP (us := [.int .i64 rv_5.1.First, .int .i64 0, .int .i64 1]) ca_50 hF hS (r0Lies_ok hS.stab rv_5.1.First 0 1 rv_11 hx_10) rfl rfl fun a w hF hS => nil (then_n ⟨hS.weak ⟨rfl, rfl, rfl, rfl, rfl, trivial⟩, ?_⟩))
  refine stepV_on (i := 22) rfl hF rfl rfl hbv_7 (fun w hS => Y.not hF rfl) rfl fun a hF => stepV (i := 23) rfl hF (fun w hS => Y.pick_f hF rfl hbv_7 rfl) rfl fun a hF => stepV (i := 24) rfl hF (fun w hS => Y.move hF rfl) rfl fun a hF => stepV_on (i := 25) rfl hF rfl rfl hbv_8 (fun w hS => Y.fieldAddr fo_49_3 hF rfl) rfl fun a hF => stepV_on (i := 26) rfl hF rfl rfl hbv_8 (fun w hS => Y.load1L 5 sz_3 hF rfl hS rfl rfl) rfl fun a hF => oneV (i := 27) rfl ?_ trivial
  refine guard_on hF rfl rfl hbv_8 (O.callP (us := [.int .i64 rv_5.1.Send, .int .i64 0, .int .i64 60]) ca_50 hF hS (r0Lies_ok hS.stab rv_5.1.Send 0 60 rv_12 hx_11) rfl rfl fun a w hF hS => nil (then_n ⟨hS.weak ⟨rfl, rfl, rfl, rfl, rfl, trivial⟩, ?_⟩))
  refine stepV_on (i := 28) rfl hF rfl rfl hbv_8 (fun w hS => Y.not hF rfl) rfl fun a hF => stepV (i := 29) rfl hF (fun w hS => Y.pick_f hF rfl hbv_8 rfl) rfl fun a hF => stepV (i := 30) rfl hF (fun w hS => Y.move hF rfl) rfl fun a hF => stepV_on (i := 31) rfl hF rfl rfl hbv_9 (fun w hS => Y.loadNL 5 sz_49 hF rfl hS rfl rfl rfl) rfl fun a hF => stepV_on (i := 33) rfl hF rfl rfl hbv_9 (fun w hS => Y.fieldAddr fo_25_0 hF rfl) rfl fun a hF => stepV_on (i := 34) rfl hF rfl rfl hbv_9 (fun w hS => Y.load1L 1 sz_3 hF rfl hS rfl rfl) rfl fun a hF => stepV_on (i := 35) rfl hF rfl rfl hbv_9 (fun w hS => Y.move hF rfl) rfl fun a hF => stepV_on (i := 36) rfl hF rfl rfl hbv_9 (fun w hS => Y.add hF rfl rfl) rfl fun a hF => oneV (i := 32) rfl ?_ trivial
  refine guard_on hF rfl rfl hbv_9 (O.callP (us := [.agg #[.int .i64 rv_5.1.Pre, .int .i64 rv_5.1.Home, .int .i64 rv_5.1.First, .int .i64 rv_5.1.Send]]) ca_51 hF hS (w7pulses_ok hS.stab rv_5.1 rv_13 hx_12) rfl rfl fun a w hF hS => nil (then_n ⟨hS.weak ⟨rfl, rfl, rfl, rfl, rfl, trivial⟩, ?_⟩))
  refine stepV_on (i := 37) rfl hF rfl rfl hbv_9 (fun w hS => Y.gtr hF rfl rfl) rfl fun a hF => stepV (i := 38) rfl hF (fun w hS => Y.pick_f hF rfl hbv_9 rfl) rfl fun a hF => toTailV ⟨hF.weak ⟨rfl, rfl, rfl, rfl, rfl, rfl, rfl, rfl, rfl, rfl, trivial⟩, hS.weak ⟨rfl, rfl, rfl, rfl, rfl, trivial⟩⟩
 rintro a w ⟨hF, hS⟩
 refine nil (then_n (cond_b hF rfl (fun hbv_10 => ?_) (fun hbv_10 => ?_)))
 ·replace h := ncond_t h hbv_10
  refine seq (region (step hF (Y.assign hF rfl) rfl fun a hF => nil (then_n (ret_ (then_r (leavePN _ (nret h) Tryd.results13 hF hS (.cons (.tmp rfl) .nil) .nil rfl))))))
 replace h := ncond_f h hbv_10
 refine skip_ (then_n (seq_cut (fun a w => ∃ (z : Int) (z_1 : Int), Frm 175 [] [(2, .slice p_2 bits.length c_2), (3, .pointer (some ⟨b, 0, none⟩)), (6, .bool false), (7, .int .i64 rv_2), (10, .pointer (some ⟨b_2, 0, none⟩)), (11, .pointer (some ⟨b_3, 0, none⟩)), (12, .pointer (some ⟨b_4, 0, none⟩)), (14, .bool rv_8.1), (15, .int .i64 rv_8.2)] a ∧ St w0 D0 Dv [(1, .cells b [.int .i64 l.Ring, .slice p l.Starts.length c, .slice p_1 l.Events.length c_1] 25), (2, .cells b_1 [.int .i64 n.a0, .int .i64 n.a1] 64), (3, .cells b_2 [.int .i64 z, .int .i64 z_1] 57), (4, .cells b_3 [.int .i64 rv_4.2.2.Ring, .slice p_4 rv_4.2.2.Starts.length c_4, .slice p_5 rv_4.2.2.Events.length c_5] 25), (5, .cells b_4 [.int .i64 rv_5.1.Pre, .int .i64 rv_5.1.Home, .int .i64 rv_5.1.First, .int .i64 rv_5.1.Send] 49)] w ∧ (w7SlaveRight_k1 l bits rv_2 rv_4 rv_5 z z_1) out) ?_ ?_))
 ·skip
  refine seq (region (step hF (Y.fieldAddr fo_49_0 hF rfl) rfl fun a hF => step hF (Y.load1L 5 sz_3 hF rfl hS rfl rfl) rfl fun a hF => step hF (Y.geq hF rfl rfl) rfl fun a hF => nil (then_n (cond_b hF rfl (fun hbv_16 => ?_) (fun hbv_16 => ?_)))))
  ·replace h := ncond_t h hbv_16
   refine region (step hF (Y.fieldAddr fo_25_0 hF rfl) rfl fun a hF => step hF (Y.load1L 1 sz_3 hF rfl hS rfl rfl) rfl fun a hF => step hF (Y.loadNL 3 sz_57 hF rfl hS rfl rfl rfl) rfl fun a hF => step hF (Y.fieldAddr fo_49_0 hF rfl) rfl fun a hF => step hF (Y.load1L 5 sz_3 hF rfl hS rfl rfl) rfl fun a hF => ?_)
   obtain ⟨rv_31, hx_29, h⟩ := ndet h
   refine O.callP (us := [.int .i64 l.Ring, .agg #[.int .i64 rv_4.2.1.Shown, .int .i64 rv_4.2.1.Last], .int .i64 rv_5.1.Pre]) ca_52 hF hS (w7moved_ok hS.stab l.Ring rv_4.2.1 rv_5.1.Pre rv_31 hx_29) rfl rfl fun a w hF hS => O.store (us := [.int .i64 rv_31.Shown, .int .i64 rv_31.Last]) 3 sz_57 hF rfl rfl rfl rfl hS rfl rfl fun a w hF hS => nil (then_n (⟨rv_31.Shown, rv_31.Last, hF.weak ⟨rfl, rfl, rfl, rfl, rfl, rfl, rfl, rfl, rfl, trivial⟩, hS.weak ⟨rfl, rfl, rfl, rfl, rfl, trivial⟩, h⟩))
  replace h := ncond_f h hbv_16
  refine skip_ (then_n (⟨rv_4.2.1.Shown, rv_4.2.1.Last, hF.weak ⟨rfl, rfl, rfl, rfl, rfl, rfl, rfl, rfl, rfl, trivial⟩, hS.weak ⟨rfl, rfl, rfl, rfl, rfl, trivial⟩, h⟩))
 rintro a w ⟨z, z_1, hF, hS, h⟩
 unfold w7SlaveRight_k1 at h
 refine seq (region (step hF (Y.fieldAddr fo_25_0 hF rfl) rfl fun a hF => step hF (Y.load1L 1 sz_3 hF rfl hS rfl rfl) rfl fun a hF => step hF (Y.loadNL 3 sz_57 hF rfl hS rfl rfl rfl) rfl fun a hF => step hF (Y.fieldAddr fo_49_1 hF rfl) rfl fun a hF => step hF (Y.load1L 5 sz_3 hF rfl hS rfl rfl) rfl fun a hF => ?_))
 obtain ⟨rv_14, hx_13, h⟩ := ndet h
 refine O.callP (us := [.int .i64 l.Ring, .agg #[.int .i64 z, .int .i64 z_1], .int .i64 rv_5.1.Home]) ca_53 hF hS (w7homed_ok hS.stab l.Ring (SlaveStart.mk z z_1) rv_5.1.Home rv_14 hx_13) rfl rfl fun a w hF hS => O.store (us := [.int .i64 rv_14.Shown, .int .i64 rv_14.Last]) 3 sz_57 hF rfl rfl rfl rfl hS rfl rfl fun a w hF hS => nil (then_n (seq (seq (region (step hF (Y.assign hF rfl) rfl fun a hF => nil (then_n (block (loop_cutN (body := w7SlaveRight_b2 l bits rv_2 rv_4 rv_5) (out := out) (fun s a w => ∃ (i : Int) (z_2 : Int) (z_3 : Int), s = (i, z_2, z_3) ∧ Frm 175 [] [(2, .slice p_2 bits.length c_2), (3, .pointer (some ⟨b, 0, none⟩)), (6, .bool false), (7, .int .i64 rv_2), (10, .pointer (some ⟨b_2, 0, none⟩)), (11, .pointer (some ⟨b_3, 0, none⟩)), (12, .pointer (some ⟨b_4, 0, none⟩)), (14, .bool rv_8.1), (15, .int .i64 rv_8.2), (16, .int .i64 i)] a ∧ St w0 D0 Dv [(1, .cells b [.int .i64 l.Ring, .slice p l.Starts.length c, .slice p_1 l.Events.length c_1] 25), (2, .cells b_1 [.int .i64 n.a0, .int .i64 n.a1] 64), (3, .cells b_2 [.int .i64 z_2, .int .i64 z_3] 57), (4, .cells b_3 [.int .i64 rv_4.2.2.Ring, .slice p_4 rv_4.2.2.Starts.length c_4, .slice p_5 rv_4.2.2.Events.length c_5] 25), (5, .cells b_4 [.int .i64 rv_5.1.Pre, .int .i64 rv_5.1.Home, .int .i64 rv_5.1.First, .int .i64 rv_5.1.Send] 49)] w) (0, rv_14.Shown, rv_14.Last) h ⟨0, rv_14.Shown, rv_14.Last, rfl, hF.weak ⟨rfl, rfl, rfl, rfl, rfl, rfl, rfl, rfl, rfl, rfl, trivial⟩, hS.weak ⟨rfl, rfl, rfl, rfl, rfl, trivial⟩⟩ ?_))))))))
 rintro s a w xo ⟨i, z_2, z_3, rfl, hF, hS⟩ h
 unfold w7SlaveRight_b2 at h
 try dsimp only at h
 refine seq (seq (region (step hF (Y.move hF rfl) rfl fun a hF => step hF (Y.fieldAddr fo_49_3 hF rfl) rfl fun a hF => step hF (Y.load1L 5 sz_3 hF rfl hS rfl rfl) rfl fun a hF => step hF (Y.lss hF rfl rfl) rfl fun a hF => nil (then_n (cond_b hF rfl (fun hbv_11 => ?_) (fun hbv_11 => ?_))))))
 ·replace h := ncond_t h hbv_11
  refine skip_ (then_n (seq (block ?_)))
  obtain ⟨rv_15, hx_14, h⟩ := ndet h
  refine drawsV 8 (.flt 0 (.flt 1 (.flt 2 (.flt 3 (.flt 4 (.flt 5 (.flt 6 (.alt 7 .done .stop)))))))) mixed_ (by kernel_rfl) (fun w => St w0 D0 Dv [(1, .cells b [.int .i64 l.Ring, .slice p l.Starts.length c, .slice p_1 l.Events.length c_1] 25), (2, .cells b_1 [.int .i64 n.a0, .int .i64 n.a1] 64), (3, .cells b_2 [.int .i64 z_2, .int .i64 z_3] 57), (4, .cells b_3 [.int .i64 rv_4.2.2.Ring, .slice p_4 rv_4.2.2.Starts.length c_4, .slice p_5 rv_4.2.2.Events.length c_5] 25), (5, .cells b_4 [.int .i64 rv_5.1.Pre, .int .i64 rv_5.1.Home, .int .i64 rv_5.1.First, .int .i64 rv_5.1.Send] 49)] w) (fun a w => Frm 175 [] [(2, .slice p_2 bits.length c_2), (3, .pointer (some ⟨b, 0, none⟩)), (6, .bool false), (7, .int .i64 rv_2), (10, .pointer (some ⟨b_2, 0, none⟩)), (11, .pointer (some ⟨b_3, 0, none⟩)), (12, .pointer (some ⟨b_4, 0, none⟩)), (14, .bool rv_8.1), (15, .int .i64 rv_8.2), (16, .int .i64 i), (127, .int .i64 l.Ring), (128, .agg #[.int .i64 z_2, .int .i64 z_3]), (133, .int .i64 rv_15)] a ∧ St w0 D0 Dv [(1, .cells b [.int .i64 l.Ring, .slice p l.Starts.length c, .slice p_1 l.Events.length c_1] 25), (2, .cells b_1 [.int .i64 n.a0, .int .i64 n.a1] 64), (3, .cells b_2 [.int .i64 z_2, .int .i64 z_3] 57), (4, .cells b_3 [.int .i64 rv_4.2.2.Ring, .slice p_4 rv_4.2.2.Starts.length c_4, .slice p_5 rv_4.2.2.Events.length c_5] 25), (5, .cells b_4 [.int .i64 rv_5.1.Pre, .int .i64 rv_5.1.Home, .int .i64 rv_5.1.First, .int .i64 rv_5.1.Send] 49)] w) (hS.weak (ms := [(1, .cells b [.int .i64 l.Ring, .slice p l.Starts.length c, .slice p_1 l.Events.length c_1] 25), (2, .cells b_1 [.int .i64 n.a0, .int .i64 n.a1] 64), (3, .cells b_2 [.int .i64 z_2, .int .i64 z_3] 57), (4, .cells b_3 [.int .i64 rv_4.2.2.Ring, .slice p_4 rv_4.2.2.Starts.length c_4, .slice p_5 rv_4.2.2.Events.length c_5] 25), (5, .cells b_4 [.int .i64 rv_5.1.Pre, .int .i64 rv_5.1.Home, .int .i64 rv_5.1.First, .int .i64 rv_5.1.Send] 49)]) ⟨rfl, rfl, rfl, rfl, rfl, trivial⟩).drew (fun _ _ _ _ h => h) ?_ ?_
  ·replace hS := hS.drew
   have hle0 := hS.le
   refine stepV (i := 0) rfl hF (fun w hS => Y.fieldAddr fo_25_0 hF rfl) rfl fun a hF => stepV (i := 1) rfl hF (fun w hS => Y.load1L 1 sz_3 hF rfl hS rfl rfl) rfl fun a hF => stepV (i := 2) rfl hF (fun w hS => Y.loadNL 3 sz_57 hF rfl hS rfl rfl rfl) rfl fun a hF => stepV (i := 3) rfl hF (fun w hS => Y.fieldAddr fo_49_2 hF rfl) rfl fun a hF => stepV (i := 4) rfl hF (fun w hS => Y.load1L 5 sz_3 hF rfl hS rfl rfl) rfl fun a hF => stepV (i := 5) rfl hF (fun w hS => Y.move hF rfl) rfl fun a hF => stepV (i := 6) rfl hF (fun w hS => Y.add hF rfl rfl) rfl fun a hF => oneV (i := 7) rfl ?_ trivial
   refine O.callP (us := [.int .i64 (wr (rv_5.1.First + i)), .int .i64 2]) ca_37 hF hS (r0Rest_ok hS.stab (wr (rv_5.1.First + i)) 2 rv_15 hx_14) rfl rfl fun a w hF hS => nil (then_n ⟨hS.weak ⟨rfl, rfl, rfl, rfl, rfl, trivial⟩, ?_⟩)
   exact toTailV ⟨hF.weak ⟨rfl, rfl, rfl, rfl, rfl, rfl, rfl, rfl, rfl, rfl, rfl, rfl, rfl, trivial⟩, hS.weak ⟨rfl, rfl, rfl, rfl, rfl, trivial⟩⟩
  rintro a w ⟨hF, hS⟩
  obtain ⟨rv_16, hx_15, h⟩ := ndet h
  refine O.callP (us := [.int .i64 l.Ring, .agg #[.int .i64 z_2, .int .i64 z_3], .int .i64 rv_15]) ca_52 hF hS (w7moved_ok hS.stab l.Ring (SlaveStart.mk z_2 z_3) rv_15 rv_16 hx_15) rfl rfl fun a w hF hS => O.store (us := [.int .i64 rv_16.Shown, .int .i64 rv_16.Last]) 3 sz_57 hF rfl rfl rfl rfl hS rfl rfl fun a w hF hS => nil (blk_n (then_n (region (step hF (Y.move hF rfl) rfl fun a hF => step hF (Y.add hF rfl rfl) rfl fun a hF => step hF (Y.assign hF rfl) rfl fun a hF => nil (then_n (⟨_, nnxt_h h, (wr (i + 1)), rv_16.Shown, rv_16.Last, rfl, hF.weak ⟨rfl, rfl, rfl, rfl, rfl, rfl, rfl, rfl, rfl, rfl, trivial⟩, hS.weak ⟨rfl, rfl, rfl, rfl, rfl, trivial⟩⟩))))))
 replace h := ncond_f h hbv_11
 refine exit_ (then_x (then_x (blk_hit (then_n ?_))))
 replace h := next_h h
 refine seq (seq (region (step hF (Y.fieldAddr fo_57_0 hF rfl) rfl fun a hF => step hF (Y.load1L 3 sz_3 hF rfl hS rfl rfl) rfl fun a hF => step hF (Y.move hF rfl) rfl fun a hF => step hF (Y.neq hF rfl rfl) rfl fun a hF => nil (then_n (cond_b hF rfl (fun hbv_12 => ?_) (fun hbv_12 => ?_))))))
 ·replace h := ncond_t h hbv_12
  refine seq (region (step hF (Y.assign hF rfl) rfl fun a hF => nil (then_n (ret_ (then_r (leavePN _ (nret h) Tryd.results13 hF hS (.cons (.tmp rfl) .nil) .nil rfl))))))
 replace h := ncond_f h hbv_12
 refine skip_ (then_n (seq (region (step hF (Y.move hF rfl) rfl fun a hF => ?_))))
 obtain ⟨rv_17, hx_16, h⟩ := ndet h
 refine O.callP (us := [.slice p_2 bits.length c_2, .int .i64 0]) ca_54 hF hS (r0At_ok hS.stab bits 0 hs_2 rv_17 hx_16) rfl rfl fun a w hF hS => ?_
 obtain ⟨rv_18, hx_17, h⟩ := ndet h
 refine O.callP (us := [.int .i64 rv_17, .int .i64 3]) ca_37 hF hS (r0Rest_ok hS.stab rv_17 3 rv_18 hx_17) rfl rfl fun a w hF hS => step hF (Y.sub hF rfl rfl) rfl fun a hF => step hF (Y.move hF rfl) rfl fun a hF => ?_
 obtain ⟨rv_19, hx_18, h⟩ := ndet h
 refine O.callP (us := [.slice p_2 bits.length c_2, .int .i64 1]) ca_54 hF hS (r0At_ok hS.stab bits 1 hs_2 rv_19 hx_18) rfl rfl fun a w hF hS => ?_
 obtain ⟨rv_20, hx_19, h⟩ := ndet h
 refine O.callP (us := [.int .i64 rv_19, .int .i64 61]) ca_37 hF hS (r0Rest_ok hS.stab rv_19 61 rv_20 hx_19) rfl rfl fun a w hF hS => step hF (Y.move hF rfl) rfl fun a hF => ?_
 obtain ⟨rv_21, hx_20, h⟩ := ndet h
 refine O.callP (us := [.slice p_2 bits.length c_2, .int .i64 2]) ca_54 hF hS (r0At_ok hS.stab bits 2 hs_2 rv_21 hx_20) rfl rfl fun a w hF hS => ?_
 obtain ⟨rv_22, hx_21, h⟩ := ndet h
 refine O.callP (us := [.int .i64 rv_21, .int .i64 2]) ca_37 hF hS (r0Rest_ok hS.stab rv_21 2 rv_22 hx_21) rfl rfl fun a w hF hS => step hF (Y.move hF rfl) rfl fun a hF => ?_
 obtain ⟨rv_23, hx_22, h⟩ := ndet h
 refine O.callP (us := [.slice p_2 bits.length c_2, .int .i64 3]) ca_54 hF hS (r0At_ok hS.stab bits 3 hs_2 rv_23 hx_22) rfl rfl fun a w hF hS => ?_
 obtain ⟨rv_24, hx_23, h⟩ := ndet h
 refine O.callP (us := [.int .i64 rv_23, .int .i64 61]) ca_37 hF hS (r0Rest_ok hS.stab rv_23 61 rv_24 hx_23) rfl rfl fun a w hF hS => step hF (Y.build (parts := [(0, (.tmp 142)), (1, (.tmp 145)), (2, (.tmp 148)), (3, (.tmp 151))]) (cs := #[.int .i64 (wr (rv_18 - 1)), .int .i64 rv_20, .int .i64 rv_22, .int .i64 rv_24]) hF rfl (by kernel_rfl)) rfl fun a hF => O.alloc 6 zc_49 hF hS rfl fun b_5 a w hF hS => O.store (us := [.int .i64 (wr (rv_18 - 1)), .int .i64 rv_20, .int .i64 rv_22, .int .i64 rv_24]) 6 sz_49 hF rfl rfl rfl rfl hS rfl rfl fun a w hF hS => nil (then_n (seq (seq ?_)))
 obtain ⟨rv_25, hx_24, h⟩ := ndet h
 refine drawsV 3 (.flt 0 (.flt 2 (.alt 1 .done .stop))) mixed_ (by kernel_rfl) (fun w => St w0 D0 Dv [(1, .cells b [.int .i64 l.Ring, .slice p l.Starts.length c, .slice p_1 l.Events.length c_1] 25), (2, .cells b_1 [.int .i64 n.a0, .int .i64 n.a1] 64), (3, .cells b_2 [.int .i64 z_2, .int .i64 z_3] 57), (4, .cells b_3 [.int .i64 rv_4.2.2.Ring, .slice p_4 rv_4.2.2.Starts.length c_4, .slice p_5 rv_4.2.2.Events.length c_5] 25), (5, .cells b_4 [.int .i64 rv_5.1.Pre, .int .i64 rv_5.1.Home, .int .i64 rv_5.1.First, .int .i64 rv_5.1.Send] 49), (6, .cells b_5 [.int .i64 (wr (rv_18 - 1)), .int .i64 rv_20, .int .i64 rv_22, .int .i64 rv_24] 49)] w) (fun a w => Frm 175 [] [(6, .bool false), (7, .int .i64 rv_2), (11, .pointer (some ⟨b_3, 0, none⟩)), (14, .bool rv_8.1), (15, .int .i64 rv_8.2), (17, .pointer (some ⟨b_5, 0, none⟩)), (154, .int .i64 rv_25), (155, .agg #[.int .i64 rv_5.1.Pre, .int .i64 rv_5.1.Home, .int .i64 rv_5.1.First, .int .i64 rv_5.1.Send])] a ∧ St w0 D0 Dv [(1, .cells b [.int .i64 l.Ring, .slice p l.Starts.length c, .slice p_1 l.Events.length c_1] 25), (2, .cells b_1 [.int .i64 n.a0, .int .i64 n.a1] 64), (3, .cells b_2 [.int .i64 z_2, .int .i64 z_3] 57), (4, .cells b_3 [.int .i64 rv_4.2.2.Ring, .slice p_4 rv_4.2.2.Starts.length c_4, .slice p_5 rv_4.2.2.Events.length c_5] 25), (5, .cells b_4 [.int .i64 rv_5.1.Pre, .int .i64 rv_5.1.Home, .int .i64 rv_5.1.First, .int .i64 rv_5.1.Send] 49), (6, .cells b_5 [.int .i64 (wr (rv_18 - 1)), .int .i64 rv_20, .int .i64 rv_22, .int .i64 rv_24] 49)] w) (hS.weak (ms := [(1, .cells b [.int .i64 l.Ring, .slice p l.Starts.length c, .slice p_1 l.Events.length c_1] 25), (2, .cells b_1 [.int .i64 n.a0, .int .i64 n.a1] 64), (3, .cells b_2 [.int .i64 z_2, .int .i64 z_3] 57), (4, .cells b_3 [.int .i64 rv_4.2.2.Ring, .slice p_4 rv_4.2.2.Starts.length c_4, .slice p_5 rv_4.2.2.Events.length c_5] 25), (5, .cells b_4 [.int .i64 rv_5.1.Pre, .int .i64 rv_5.1.Home, .int .i64 rv_5.1.First, .int .i64 rv_5.1.Send] 49), (6, .cells b_5 [.int .i64 (wr (rv_18 - 1)), .int .i64 rv_20, .int .i64 rv_22, .int .i64 rv_24] 49)]) ⟨rfl, rfl, rfl, rfl, rfl, rfl, trivial⟩).drew (fun _ _ _ _ h => h) ?_ ?_
 ·replace hS := hS.drew
  have hle0 := hS.le
  refine stepV (i := 0) rfl hF (fun w hS => Y.loadNL 6 sz_49 hF rfl hS rfl rfl rfl) rfl fun a hF => stepV (i := 2) rfl hF (fun w hS => Y.loadNL 5 sz_49 hF rfl hS rfl rfl rfl) rfl fun a hF => oneV (i := 1) rfl ?_ trivial
  refine O.callP (us := [.agg #[.int .i64 (wr (rv_18 - 1)), .int .i64 rv_20, .int .i64 rv_22, .int .i64 rv_24]]) ca_51 hF hS (w7pulses_ok hS.stab (SlavePlan.mk (wr (rv_18 - 1)) rv_20 rv_22 rv_24) rv_25 hx_24) rfl rfl fun a w hF hS => nil (then_n ⟨hS.weak ⟨rfl, rfl, rfl, rfl, rfl, rfl, trivial⟩, ?_⟩)
  exact toTailV ⟨hF.weak ⟨rfl, rfl, rfl, rfl, rfl, rfl, rfl, rfl, trivial⟩, hS.weak ⟨rfl, rfl, rfl, rfl, rfl, rfl, trivial⟩⟩
 rintro a w ⟨hF, hS⟩
 obtain ⟨rv_26, hx_25, h⟩ := ndet h
 refine O.callP (us := [.agg #[.int .i64 rv_5.1.Pre, .int .i64 rv_5.1.Home, .int .i64 rv_5.1.First, .int .i64 rv_5.1.Send]]) ca_51 hF hS (w7pulses_ok hS.stab rv_5.1 rv_26 hx_25) rfl rfl fun a w hF hS => step hF (Y.geq hF rfl rfl) rfl fun a hF => nil (then_n (cond_b hF rfl (fun hbv_13 => ?_) (fun hbv_13 => ?_)))
 ·replace h := ncond_t h hbv_13
  refine seq (region ?_)
  obtain ⟨KQ_5, hx_26, hk_5⟩ := nbnd_ex h
  refine O.callPN (us := []) ca_23 hF hS (w7works_ok hS.stab hG KQ_5 hx_26) rfl rfl fun rv_27 h a w hF hS => ?_
  replace h := hk_5 _ h
  refine step hF (Y.assign hF rfl) rfl fun a hF => nil (then_n (ret_ (then_r (leavePN _ (nret h) Tryd.results13 hF hS (.cons (.tmp rfl) .nil) .nil rfl))))
 replace h := ncond_f h hbv_13
 refine skip_ (then_n (seq (region (step hF (Y.loadNL 4 sz_25 hF rfl hS rfl rfl rfl) rfl fun a hF => step hF (Y.move hF rfl) rfl fun a hF => step hF (Y.loadNL 6 sz_49 hF rfl hS rfl rfl rfl) rfl fun a hF => ?_))))
 obtain ⟨KQ_6, hx_27, hk_6⟩ := nbnd_ex h
 refine O.callPN (us := [.agg #[.int .i64 rv_4.2.2.Ring, .slice p_4 rv_4.2.2.Starts.length c_4, .slice p_5 rv_4.2.2.Events.length c_5], .int .i64 rv_2, .agg #[.int .i64 (wr (rv_18 - 1)), .int .i64 rv_20, .int .i64 rv_22, .int .i64 rv_24]]) ca_32 hF hS (slave_Sets_ok hS.stab rv_4.2.2 rv_2 (SlavePlan.mk (wr (rv_18 - 1)) rv_20 rv_22 rv_24) hs_4 hs_5 hG KQ_6 hx_27) rfl rfl fun rv_28 h a w hF hS => ?_
 replace h := hk_6 _ h
 refine step hF (Y.move hF rfl) rfl fun a hF => step hF (Y.extract hF rfl rfl) rfl fun a hF => step hF (Y.extract hF rfl rfl) rfl fun a hF => step hF (Y.assign hF rfl) rfl fun a hF => step hF (Y.assign hF rfl) rfl fun a hF => nil (then_n (seq (region (step hF (Y.move hF rfl) rfl fun a hF => step hF (Y.eql hF rfl rfl) rfl fun a hF => step hF (Y.move hF rfl) rfl fun a hF => join (N := 175) (rs := []) (w0 := w0) (D0 := D0) 3 (us := [(6, .bool false), (171, .bool ((rv_28.2 == 0) && (!rv_28.1)))]) (ms := [(1, .cells b [.int .i64 l.Ring, .slice p l.Starts.length c, .slice p_1 l.Events.length c_1] 25), (2, .cells b_1 [.int .i64 n.a0, .int .i64 n.a1] 64), (3, .cells b_2 [.int .i64 z_2, .int .i64 z_3] 57), (4, .cells b_3 [.int .i64 rv_4.2.2.Ring, .slice p_4 rv_4.2.2.Starts.length c_4, .slice p_5 rv_4.2.2.Events.length c_5] 25), (5, .cells b_4 [.int .i64 rv_5.1.Pre, .int .i64 rv_5.1.Home, .int .i64 rv_5.1.First, .int .i64 rv_5.1.Send] 49), (6, .cells b_5 [.int .i64 (wr (rv_18 - 1)), .int .i64 rv_20, .int .i64 rv_22, .int .i64 rv_24] 49)]) (D' := Dv) ?_ ?_))))
 ·rcases bcases (rv_28.2 == 0) with hbv_14 | hbv_14
  ·skip
   refine guard_on hF rfl rfl hbv_14 (step hF (Y.move hF rfl) rfl fun a hF => guard_on hF rfl rfl hbv_14 (step hF (Y.not hF rfl) rfl fun a hF => step hF (Y.pick_t hF rfl hbv_14 rfl) rfl fun a hF => nil (then_n ⟨hF.weak ⟨rfl, (by rw [hbv_14]; rfl), trivial⟩, hS.weak ⟨rfl, rfl, rfl, rfl, rfl, rfl, trivial⟩⟩)))
  refine guard_off hF rfl rfl hbv_14 rfl fun a hF => guard_off hF rfl rfl hbv_14 rfl fun a hF => step hF (Y.pick_f hF rfl hbv_14 rfl) rfl fun a hF => nil (then_n ⟨hF.weak ⟨rfl, (by rw [hbv_14]; rfl), trivial⟩, hS.weak ⟨rfl, rfl, rfl, rfl, rfl, rfl, trivial⟩⟩)
 intro a w hF hS
 refine step hF (Y.move hF rfl) rfl fun a hF => ?_
 obtain ⟨KQ_8, ht_7, hk_8⟩ := nbnd_ex h
 refine list_cut 2 (fun a w => ∃ (t_7 : Bool) (D : Stab), Dv.le D ∧ Frm 175 [] [(6, .bool false), (174, .bool t_7)] a ∧ St w0 D0 D [(1, .cells b [.int .i64 l.Ring, .slice p l.Starts.length c, .slice p_1 l.Events.length c_1] 25), (2, .cells b_1 [.int .i64 n.a0, .int .i64 n.a1] 64), (3, .cells b_2 [.int .i64 z_2, .int .i64 z_3] 57), (4, .cells b_3 [.int .i64 rv_4.2.2.Ring, .slice p_4 rv_4.2.2.Starts.length c_4, .slice p_5 rv_4.2.2.Events.length c_5] 25), (5, .cells b_4 [.int .i64 rv_5.1.Pre, .int .i64 rv_5.1.Home, .int .i64 rv_5.1.First, .int .i64 rv_5.1.Send] 49), (6, .cells b_5 [.int .i64 (wr (rv_18 - 1)), .int .i64 rv_20, .int .i64 rv_22, .int .i64 rv_24] 49)] w ∧ KQ_8 t_7) ?_ ?_
 ·rcases bcases ((rv_28.2 == 0) && (!rv_28.1)) with hbv_15 | hbv_15
  ·skip
   replace h := ncond_t ht_7 hbv_15
   refine guard_on hF rfl rfl hbv_15 ?_
   obtain ⟨KQ_7, hx_28, hk_7⟩ := nbnd_ex h
   refine O.callPN (us := []) ca_23 hF hS (w7works_ok hS.stab hG KQ_7 hx_28) rfl rfl fun rv_30 h a w hF hS => ?_
   replace h := hk_7 _ h
   refine step hF (Y.pick_t hF rfl hbv_15 rfl) rfl fun a hF => nil (then_n ⟨_, Dv, Stab.le.refl _, hF.weak ⟨rfl, rfl, trivial⟩, hS.weak ⟨rfl, rfl, rfl, rfl, rfl, rfl, trivial⟩, nret h⟩)
  replace h := ncond_f ht_7 hbv_15
  refine guard_off hF rfl rfl hbv_15 rfl fun a hF => step hF (Y.pick_f hF rfl hbv_15 rfl) rfl fun a hF => nil (then_n ⟨_, Dv, Stab.le.refl _, hF.weak ⟨rfl, rfl, trivial⟩, hS.weak ⟨rfl, rfl, rfl, rfl, rfl, rfl, trivial⟩, nret h⟩)
 rintro a w ⟨t_7, Dv_2, hlev_2, hF, hS, h⟩
 replace h := hk_8 _ h
 refine step hF (Y.assign hF rfl) rfl fun a hF => nil (then_n (ret_ (leavePN _ (nret h) Tryd.results13 hF hS (.cons (.tmp rfl) .nil) .nil rfl)))
end Go.Proofs.YtmbgmefmkjeahaaDoor.Rt
