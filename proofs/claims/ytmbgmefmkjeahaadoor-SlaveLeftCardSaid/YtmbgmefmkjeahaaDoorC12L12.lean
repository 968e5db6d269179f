/- Walks of the functions of this seat: what each Go function comes to, as a Lean function, and the proof. A law. Under no conditions. -/
import Derived.Test.YtmbgmefmkjeahaaDoorC12WOZ
set_option linter.unusedVariables false
set_option linter.unusedSimpArgs false
set_option maxRecDepth 100000
set_option maxHeartbeats 4000000
namespace Go.Proofs.YtmbgmefmkjeahaaDoor.Rt
open Go Go.RowKit
noncomputable def w7SlaveLeft_b2 (l : SlaveLine) (set : Int) (rv : ((List Int) × Int)) : ((List Int) × Int) → ND (((List Int) × Int) ⊕ Bool)
 | (others, i_1) =>
  cond (decide (i_1 < (l.Events.length : Int)))
  ((ND.det (r0Rest set 1024) fun rv_11 =>
  (ND.det (r0In rv_11 i_1) fun rv_12 =>
  (ND.det (cond rv_12 ((idx l.Events i_1).bind fun e_2 =>
  some (e_2.Kind == 2)) (some false)) fun t_4 =>
  cond t_4
  ((ND.grd (others.length + ([i_1]).length ≤ lim) (
  nnxt ((others ++ [i_1]), wr (i_1 + 1)))))
  (nnxt (others, wr (i_1 + 1)))))))
  (next_ ((ND.det (cond (decide ((others.length : Int) > (rv.1.length : Int))) (some true) ((cond ((others.length : Int) == (rv.1.length : Int)) ((r0Ahead others rv.1).bind fun rv_13 =>
  some (!rv_13)) (some false)).bind fun t_5 =>
  some t_5)) fun t_6 =>
  cond t_6
  ((ND.bnd (w7works) fun rv_14 =>
  ND.ret rv_14))
  ((ND.det (w7without l others) fun rv_15 =>
  (ND.bnd (w7all rv_15) fun rv_16 =>
  (ND.bnd (cond (!rv_16) ((ND.bnd (w7works) fun rv_18 =>
  ND.ret rv_18)) (ND.ret false)) fun t_7 =>
  ND.ret t_7)))))))
noncomputable def w7SlaveLeft_b1 (l : SlaveLine) (set : Int) (rv : ((List Int) × Int)) : (Bool × Int) → ND ((Bool × Int) ⊕ Bool)
 | (v4_0, i) =>
  cond (decide (i < (rv.1.length : Int)))
  ((ND.det (idx rv.1 i) fun e =>
  (ND.det (idx l.Events e) fun e_1 =>
  cond (e_1.Kind != 2)
  (next_ (ND.ret false))
  (nnxt (v4_0, wr (i + 1))))))
  (next_ (loopN (w7SlaveLeft_b2 l set rv) (([] : List Int), 0)))
noncomputable def w7SlaveLeft (l : SlaveLine) (set : Int) : ND Bool :=
  (ND.bnd (slave_Wrong l) fun rv =>
  (ND.det (w7sound l) fun rv_1 =>
  cond (!rv_1)
  ((ND.bnd (cond ((rv.2 == 70) && ((rv.1.length : Int) == 0)) ((ND.bnd (w7works) fun rv_3 =>
  ND.ret rv_3)) (ND.ret false)) fun t =>
  ND.ret t))
  ((ND.det (cond (rv.2 != 0) (some true) ((r0Climbs rv.1 (l.Events.length : Int)).bind fun rv_4 =>
  some (!rv_4))) fun t_1 =>
  (ND.bnd (cond t_1 (ND.ret true) ((ND.det (w7without l rv.1) fun rv_7 =>
  (ND.bnd (w7all rv_7) fun rv_8 =>
  ND.ret (!rv_8))))) fun t_2 =>
  (ND.bnd (cond t_2 (ND.ret true) ((ND.bnd (w7all l) fun rv_10 =>
  ND.ret (((rv.1.length : Int) == 0) != rv_10)))) fun t_3 =>
  cond t_3
  (ND.ret false)
  (loopN (w7SlaveLeft_b1 l set rv) (false, 0))))))))
theorem w7SlaveLeft_ok {w0 : World} {D0 : Stab} (hD : D0.on w0) (l : SlaveLine) (set : Int) {p : Option Addr} {c : Nat} {p_1 : Option Addr} {c_1 : Nat} (hs : SRc C_SlaveStart D0 l.Starts p c) (hs_1 : SRc C_SlaveEvent D0 l.Events p_1 c_1) (hG : Glob D0) (out : Bool → Prop) (h : w7SlaveLeft l set out) : Calls Tryd.prog 12 [.agg #[.int .i64 l.Ring, .slice p l.Starts.length c, .slice p_1 l.Events.length c_1], .int .i64 set].toArray w0 (RetPN D0 w0 out fun (out : Bool) => .bool out) := by
 refine enter _ 120 Tryd.func12 rfl Tryd.ntmps12 rfl fun a hF => ?_
 replace hF : Frm 120 [] [(0, .agg #[.int .i64 l.Ring, .slice p l.Starts.length c, .slice p_1 l.Events.length c_1]), (1, .int .i64 set)] a := hF
 have hS := St.start hD
 unfold w7SlaveLeft at h
 refine seq (region (O.box (cs := [.int .i64 l.Ring, .slice p l.Starts.length c, .slice p_1 l.Events.length c_1]) 1 hF rfl rfl hS rfl fun b a w hF hS => step hF (Y.assign hF rfl) rfl fun a hF => nil (then_n (seq (region (step hF (Y.loadNL 1 sz_25 hF rfl hS rfl rfl rfl) rfl fun a hF => ?_))))))
 obtain ⟨KQ, hx, hk⟩ := nbnd_ex h
 refine O.callSN (us := [.agg #[.int .i64 l.Ring, .slice p l.Starts.length c, .slice p_1 l.Events.length c_1]]) ca_28 hF hS (slave_Wrong_ok hS.stab l hs hs_1 hG KQ hx) rfl rfl fun rv h v Dv a w hR hlev hF hS => ?_
 replace h := hk _ h
 replace hs := hs.mono hlev
 replace hs_1 := hs_1.mono hlev
 replace hG := hG.mono hlev
 obtain ⟨p_2, c_2, rfl, hs_2⟩ := hR
 refine step hF (Y.move hF rfl) rfl fun a hF => step hF (Y.extract hF rfl rfl) rfl fun a hF => step hF (Y.extract hF rfl rfl) rfl fun a hF => step hF (Y.assign hF rfl) rfl fun a hF => step hF (Y.assign hF rfl) rfl fun a hF => nil (then_n (seq (seq (region (step hF (Y.loadNL 1 sz_25 hF rfl hS rfl rfl rfl) rfl fun a hF => ?_)))))
 obtain ⟨rv_1, hx_1, h⟩ := ndet h
 refine O.callP (us := [.agg #[.int .i64 l.Ring, .slice p l.Starts.length c, .slice p_1 l.Events.length c_1]]) ca_36 hF hS (w7sound_ok hS.stab l hs hs_1 rv_1 hx_1) rfl rfl fun a w hF hS => step hF (Y.not hF rfl) rfl fun a hF => nil (then_n (cond_b hF rfl (fun hbv => ?_) (fun hbv => ?_)))
 ·replace h := ncond_t h hbv
  refine seq (region (step hF (Y.move hF rfl) rfl fun a hF => step hF (Y.eql hF rfl rfl) rfl fun a hF => step hF (Y.move hF rfl) rfl fun a hF => join (N := 120) (rs := []) (w0 := w0) (D0 := D0) 4 (us := [(1, .int .i64 set), (2, .pointer (some ⟨b, 0, none⟩)), (4, .bool false), (5, .slice p_2 rv.1.length c_2), (6, .int .i64 rv.2), (24, .bool ((rv.2 == 70) && ((rv.1.length : Int) == 0)))]) (ms := [(1, .cells b [.int .i64 l.Ring, .slice p l.Starts.length c, .slice p_1 l.Events.length c_1] 25)]) (D' := Dv) ?_ ?_))
  ·rcases bcases (rv.2 == 70) with hbv_1 | hbv_1
   ·skip
    refine guard_on hF rfl rfl hbv_1 (step hF (Y.move hF rfl) rfl fun a hF => guard_on hF rfl rfl hbv_1 (step hF (Y.lenSl u_26 hF rfl) rfl fun a hF => guard_on hF rfl rfl hbv_1 (step hF (Y.eql hF rfl rfl) rfl fun a hF => step hF (Y.pick_t hF rfl hbv_1 rfl) rfl fun a hF => nil (then_n ⟨hF.weak ⟨rfl, rfl, rfl, rfl, rfl, (by rw [hbv_1]; rfl), trivial⟩, hS.weak ⟨rfl, trivial⟩⟩))))
   refine guard_off hF rfl rfl hbv_1 rfl fun a hF => guard_off hF rfl rfl hbv_1 rfl fun a hF => guard_off hF rfl rfl hbv_1 rfl fun a hF => step hF (Y.pick_f hF rfl hbv_1 rfl) rfl fun a hF => nil (then_n ⟨hF.weak ⟨rfl, rfl, rfl, rfl, rfl, (by rw [hbv_1]; rfl), trivial⟩, hS.weak ⟨rfl, trivial⟩⟩)
  intro a w hF hS
  refine step hF (Y.move hF rfl) rfl fun a hF => ?_
  obtain ⟨KQ_2, ht, hk_2⟩ := nbnd_ex h
  refine list_cut 2 (fun a w => ∃ (t : Bool) (D : Stab), Dv.le D ∧ Frm 120 [] [(1, .int .i64 set), (2, .pointer (some ⟨b, 0, none⟩)), (4, .bool false), (5, .slice p_2 rv.1.length c_2), (6, .int .i64 rv.2), (27, .bool t)] a ∧ St w0 D0 D [(1, .cells b [.int .i64 l.Ring, .slice p l.Starts.length c, .slice p_1 l.Events.length c_1] 25)] w ∧ KQ_2 t) ?_ ?_
  ·rcases bcases ((rv.2 == 70) && ((rv.1.length : Int) == 0)) with hbv_2 | hbv_2
   ·skip
    replace h := ncond_t ht hbv_2
    refine guard_on hF rfl rfl hbv_2 ?_
    obtain ⟨KQ_1, hx_2, hk_1⟩ := nbnd_ex h
    refine O.callPN (us := []) ca_23 hF hS (w7works_ok hS.stab hG KQ_1 hx_2) rfl rfl fun rv_3 h a w hF hS => ?_
    replace h := hk_1 _ h
    refine step hF (Y.pick_t hF rfl hbv_2 rfl) rfl fun a hF => nil (then_n ⟨_, Dv, Stab.le.refl _, hF.weak ⟨rfl, rfl, rfl, rfl, rfl, rfl, trivial⟩, hS.weak ⟨rfl, trivial⟩, nret h⟩)
   replace h := ncond_f ht hbv_2
   refine guard_off hF rfl rfl hbv_2 rfl fun a hF => step hF (Y.pick_f hF rfl hbv_2 rfl) rfl fun a hF => nil (then_n ⟨_, Dv, Stab.le.refl _, hF.weak ⟨rfl, rfl, rfl, rfl, rfl, rfl, trivial⟩, hS.weak ⟨rfl, trivial⟩, nret h⟩)
  rintro a w ⟨t, Dv_1, hlev_1, hF, hS, h⟩
  replace h := hk_2 _ h
  refine step hF (Y.assign hF rfl) rfl fun a hF => nil (then_n (ret_ (then_r (leavePN _ (nret h) Tryd.results12 hF hS (.cons (.tmp rfl) .nil) .nil rfl))))
 replace h := ncond_f h hbv
 refine skip_ (then_n (seq (seq (region (step hF (Y.move hF rfl) rfl fun a hF => step hF (Y.neq hF rfl rfl) rfl fun a hF => step hF (Y.move hF rfl) rfl fun a hF => ?_)))))
 obtain ⟨t_1, ht_1, h⟩ := ndet h
 refine join (N := 120) (rs := []) (w0 := w0) (D0 := D0) 7 (us := [(1, .int .i64 set), (2, .pointer (some ⟨b, 0, none⟩)), (4, .bool false), (5, .slice p_2 rv.1.length c_2), (37, .bool t_1)]) (ms := [(1, .cells b [.int .i64 l.Ring, .slice p l.Starts.length c, .slice p_1 l.Events.length c_1] 25)]) (D' := Dv) ?_ ?_
 ·rcases bcases (rv.2 != 0) with hbv_3 | hbv_3
  ·skip
   replace h := cond_t ht_1 hbv_3
   refine guard_off hF rfl rfl hbv_3 rfl fun a hF => guard_off hF rfl rfl hbv_3 rfl fun a hF => guard_off hF rfl rfl hbv_3 rfl fun a hF => guard_off hF rfl rfl hbv_3 rfl fun a hF => guard_off hF rfl rfl hbv_3 rfl fun a hF => guard_off hF rfl rfl hbv_3 rfl fun a hF => step hF (Y.pick_t hF rfl hbv_3 rfl) rfl fun a hF => ?_
   obtain rfl := some_inj h
   exact nil (then_n ⟨hF.weak ⟨rfl, rfl, rfl, rfl, rfl, trivial⟩, hS.weak ⟨rfl, trivial⟩⟩)
  replace h := cond_f ht_1 hbv_3
  refine guard_on hF rfl rfl hbv_3 (step hF (Y.move hF rfl) rfl fun a hF => guard_on hF rfl rfl hbv_3 (step hF (Y.fieldAddr fo_25_2 hF rfl) rfl fun a hF => guard_on hF rfl rfl hbv_3 (step hF (Y.load1L 1 sz_23 hF rfl hS rfl rfl) rfl fun a hF => guard_on hF rfl rfl hbv_3 (step hF (Y.lenSl u_23 hF rfl) rfl fun a hF => guard_on hF rfl rfl hbv_3 ?_))))
  obtain ⟨rv_4, hx_3, h⟩ := bind_some h
  refine O.callP (us := [.slice p_2 rv.1.length c_2, .int .i64 (l.Events.length : Int)]) ca_40 hF hS (r0Climbs_ok hS.stab rv.1 (l.Events.length : Int) hs_2 rv_4 hx_3) rfl rfl fun a w hF hS => guard_on hF rfl rfl hbv_3 (step hF (Y.not hF rfl) rfl fun a hF => step hF (Y.pick_f hF rfl hbv_3 rfl) rfl fun a hF => ?_)
  obtain rfl := some_inj h
  exact nil (then_n ⟨hF.weak ⟨rfl, rfl, rfl, rfl, rfl, trivial⟩, hS.weak ⟨rfl, trivial⟩⟩)
 intro a w hF hS
 refine step hF (Y.move hF rfl) rfl fun a hF => ?_
 obtain ⟨KQ_4, ht_2, hk_4⟩ := nbnd_ex h
 refine list_cut 6 (fun a w => ∃ (t_2 : Bool) (D : Stab), Dv.le D ∧ Frm 120 [] [(1, .int .i64 set), (2, .pointer (some ⟨b, 0, none⟩)), (4, .bool false), (5, .slice p_2 rv.1.length c_2), (44, .bool t_2)] a ∧ St w0 D0 D [(1, .cells b [.int .i64 l.Ring, .slice p l.Starts.length c, .slice p_1 l.Events.length c_1] 25)] w ∧ KQ_4 t_2) ?_ ?_
 ·rcases bcases t_1 with hbv_4 | hbv_4
  ·skip
   replace h := ncond_t ht_2 hbv_4
   refine guard_off hF rfl rfl hbv_4 rfl fun a hF => guard_off hF rfl rfl hbv_4 rfl fun a hF => guard_off hF rfl rfl hbv_4 rfl fun a hF => guard_off hF rfl rfl hbv_4 rfl fun a hF => guard_off hF rfl rfl hbv_4 rfl fun a hF => step hF (Y.pick_t hF rfl hbv_4 rfl) rfl fun a hF => nil (then_n ⟨_, Dv, Stab.le.refl _, hF.weak ⟨rfl, rfl, rfl, rfl, rfl, trivial⟩, hS.weak ⟨rfl, trivial⟩, nret h⟩)
  replace h := ncond_f ht_2 hbv_4
  refine guard_on hF rfl rfl hbv_4 (step hF (Y.loadNL 1 sz_25 hF rfl hS rfl rfl rfl) rfl fun a hF => guard_on hF rfl rfl hbv_4 (step hF (Y.move hF rfl) rfl fun a hF => guard_on hF rfl rfl hbv_4 ?_))
  obtain ⟨rv_7, hx_5, h⟩ := ndet h
  refine O.callS (us := [.agg #[.int .i64 l.Ring, .slice p l.Starts.length c, .slice p_1 l.Events.length c_1], .slice p_2 rv.1.length c_2]) ca_47 hF hS (w7without_ok hS.stab l rv.1 hs hs_1 hs_2 rv_7 hx_5) rfl rfl fun v_2 Dv_3 a w hR_2 hlev_3 hF hS => ?_
  replace hG := hG.mono hlev_3
  obtain ⟨p_5, c_5, p_6, c_6, rfl, hs_5, hs_6⟩ := hR_2
  refine guard_on hF rfl rfl hbv_4 ?_
  obtain ⟨KQ_3, hx_6, hk_3⟩ := nbnd_ex h
  refine O.callPN (us := [.agg #[.int .i64 rv_7.Ring, .slice p_5 rv_7.Starts.length c_5, .slice p_6 rv_7.Events.length c_6]]) ca_46 hF hS (w7all_ok hS.stab rv_7 hs_5 hs_6 hG KQ_3 hx_6) rfl rfl fun rv_8 h a w hF hS => ?_
  replace h := hk_3 _ h
  refine guard_on hF rfl rfl hbv_4 (step hF (Y.not hF rfl) rfl fun a hF => step hF (Y.pick_f hF rfl hbv_4 rfl) rfl fun a hF => nil (then_n ⟨_, Dv_3, hlev_3, hF.weak ⟨rfl, rfl, rfl, rfl, rfl, trivial⟩, hS.weak ⟨rfl, trivial⟩, nret h⟩))
 rintro a w ⟨t_2, Dv_4, hlev_4, hF, hS, h⟩
 replace h := hk_4 _ h
 replace hs := hs.mono hlev_4
 replace hs_1 := hs_1.mono hlev_4
 replace hG := hG.mono hlev_4
 replace hs_2 := hs_2.mono hlev_4
 refine step hF (Y.move hF rfl) rfl fun a hF => ?_
 obtain ⟨KQ_6, ht_3, hk_6⟩ := nbnd_ex h
 refine list_cut 7 (fun a w => ∃ (t_3 : Bool) (D : Stab), Dv_4.le D ∧ Frm 120 [] [(1, .int .i64 set), (2, .pointer (some ⟨b, 0, none⟩)), (4, .bool false), (5, .slice p_2 rv.1.length c_2), (52, .bool t_3)] a ∧ St w0 D0 D [(1, .cells b [.int .i64 l.Ring, .slice p l.Starts.length c, .slice p_1 l.Events.length c_1] 25)] w ∧ KQ_6 t_3) ?_ ?_
 ·rcases bcases t_2 with hbv_5 | hbv_5
  ·skip
   replace h := ncond_t ht_3 hbv_5
   refine guard_off hF rfl rfl hbv_5 rfl fun a hF => guard_off hF rfl rfl hbv_5 rfl fun a hF => guard_off hF rfl rfl hbv_5 rfl fun a hF => guard_off hF rfl rfl hbv_5 rfl fun a hF => guard_off hF rfl rfl hbv_5 rfl fun a hF => guard_off hF rfl rfl hbv_5 rfl fun a hF => step hF (Y.pick_t hF rfl hbv_5 rfl) rfl fun a hF => nil (then_n ⟨_, Dv_4, Stab.le.refl _, hF.weak ⟨rfl, rfl, rfl, rfl, rfl, trivial⟩, hS.weak ⟨rfl, trivial⟩, nret h⟩)
  replace h := ncond_f ht_3 hbv_5
  refine guard_on hF rfl rfl hbv_5 (step hF (Y.move hF rfl) rfl fun a hF => guard_on hF rfl rfl hbv_5 (step hF (Y.lenSl u_26 hF rfl) rfl fun a hF => guard_on hF rfl rfl hbv_5 (step hF (Y.eql hF rfl rfl) rfl fun a hF => guard_on hF rfl rfl hbv_5 (step hF (Y.loadNL 1 sz_25 hF rfl hS rfl rfl rfl) rfl fun a hF => guard_on hF rfl rfl hbv_5 ?_))))
  obtain ⟨KQ_5, hx_7, hk_5⟩ := nbnd_ex h
  refine O.callPN (us := [.agg #[.int .i64 l.Ring, .slice p l.Starts.length c, .slice p_1 l.Events.length c_1]]) ca_46 hF hS (w7all_ok hS.stab l hs hs_1 hG KQ_5 hx_7) rfl rfl fun rv_10 h a w hF hS => ?_
  replace h := hk_5 _ h
  refine guard_on hF rfl rfl hbv_5 (step hF (Y.neb u_4 hF rfl rfl) rfl fun a hF => step hF (Y.pick_f hF rfl hbv_5 rfl) rfl fun a hF => nil (then_n ⟨_, Dv_4, Stab.le.refl _, hF.weak ⟨rfl, rfl, rfl, rfl, rfl, trivial⟩, hS.weak ⟨rfl, trivial⟩, nret h⟩))
 rintro a w ⟨t_3, Dv_5, hlev_5, hF, hS, h⟩
 replace h := hk_6 _ h
 replace hs := hs.mono hlev_5
 replace hs_1 := hs_1.mono hlev_5
 replace hG := hG.mono hlev_5
 replace hs_2 := hs_2.mono hlev_5
 refine nil (then_n (cond_b hF rfl (fun hbv_6 => ?_) (fun hbv_6 => ?_)))
 ·replace h := ncond_t h hbv_6
  refine seq (region (step hF (Y.assign hF rfl) rfl fun a hF => nil (then_n (ret_ (then_r (leavePN _ (nret h) Tryd.results12 hF hS (.cons (.tmp rfl) .nil) .nil rfl))))))
 replace h := ncond_f h hbv_6
 refine skip_ (then_n (seq (seq (region (step hF (Y.assign hF rfl) rfl fun a hF => nil (then_n (block (loop_cutN (body := w7SlaveLeft_b1 l set rv) (out := out) (fun s a w => ∃ (v4_0 : Bool) (i : Int), s = (v4_0, i) ∧ Frm 120 [] [(1, .int .i64 set), (2, .pointer (some ⟨b, 0, none⟩)), (4, .bool v4_0), (5, .slice p_2 rv.1.length c_2), (7, .int .i64 i)] a ∧ St w0 D0 Dv_5 [(1, .cells b [.int .i64 l.Ring, .slice p l.Starts.length c, .slice p_1 l.Events.length c_1] 25)] w) (false, 0) h ⟨false, 0, rfl, hF.weak ⟨rfl, rfl, rfl, rfl, rfl, trivial⟩, hS.weak ⟨rfl, trivial⟩⟩ ?_))))))))
 rintro s a w xo ⟨v4_0, i, rfl, hF, hS⟩ h
 unfold w7SlaveLeft_b1 at h
 try dsimp only at h
 refine seq (seq (region (step hF (Y.move hF rfl) rfl fun a hF => step hF (Y.move hF rfl) rfl fun a hF => step hF (Y.lenSl u_26 hF rfl) rfl fun a hF => step hF (Y.lss hF rfl rfl) rfl fun a hF => nil (then_n (cond_b hF rfl (fun hbv_7 => ?_) (fun hbv_7 => ?_))))))
 ·replace h := ncond_t h hbv_7
  refine skip_ (then_n (seq (block (seq (draws 10 [(0, true), (1, true), (2, true), (3, true), (4, true), (5, true), (6, true), (7, true), (8, true), (9, true)] mixed_ (by kernel_rfl) (fun w => St w0 D0 Dv_5 _ w) hS.drew (fun _ _ _ _ h => h) ?_)))))
  replace hS := hS.drew
  refine stepT (i := 0) rfl hF (fun w hS => Y.fieldAddr fo_25_2 hF rfl) rfl fun a hF => stepT (i := 1) rfl hF (fun w hS => Y.load1L 1 sz_23 hF rfl hS rfl rfl) rfl fun a hF => stepT (i := 2) rfl hF (fun w hS => Y.move hF rfl) rfl fun a hF => stepT (i := 3) rfl hF (fun w hS => Y.move hF rfl) rfl fun a hF => ?_
  obtain ⟨e, hx_8, h⟩ := ndet h
  obtain ⟨b_1, o, hE, hY⟩ := Y.indexS (P := Tryd.prog) (C := C_int) (xs := rv.1) (T := 26) (x := (.tmp 61)) (y := (.tmp 62)) u_26 sz_3 hF rfl rfl (hs_2).1 hx_8
  obtain ⟨cc, hc, hcell⟩ := hE.open
  obtain rfl := hc
  refine stepT (i := 4) rfl hF (fun w hS => hY) rfl fun a hF => stepT (i := 5) rfl hF (fun w hS => Y.load1 sz_3 hF rfl (hcell _ hS.stab 0 _ rfl)) rfl fun a hF => ?_
  obtain ⟨e_1, hx_9, h⟩ := ndet h
  obtain ⟨b_2, o_1, hE_1, hY_1⟩ := Y.indexS (P := Tryd.prog) (C := C_SlaveEvent) (xs := l.Events) (T := 23) (x := (.tmp 60)) (y := (.tmp 64)) u_23 sz_66 hF rfl rfl (hs_1).1 hx_9
  obtain ⟨cc_1, hc_1, hcell_1⟩ := hE_1.open
  obtain rfl := C_SlaveEvent.open hc_1
  refine stepT (i := 6) rfl hF (fun w hS => hY_1) rfl fun a hF => stepT (i := 7) rfl hF (fun w hS => Y.fieldAddr fo_66_0 hF rfl) rfl fun a hF => stepT (i := 8) rfl hF (fun w hS => Y.load1 sz_3 hF rfl (hcell_1 _ hS.stab 0 _ rfl)) rfl fun a hF => stepT (i := 9) rfl hF (fun w hS => Y.neq hF rfl rfl) rfl fun a hF => toTail (nil (then_n (cond_b hF rfl (fun hbv_8 => ?_) (fun hbv_8 => ?_))))
  ·replace h := ncond_t h hbv_8
   refine seq (region (step hF (Y.assign hF rfl) rfl fun a hF => nil (then_n (ret_ (blk_r (then_r (then_r (blk_r (then_r ?_)))))))))
   replace h := next_h h
   exact leavePN _ (nret h) Tryd.results12 hF hS (.cons (.tmp rfl) .nil) .nil rfl
  replace h := ncond_f h hbv_8
  refine skip_ (blk_n (then_n (region (step hF (Y.move hF rfl) rfl fun a hF => step hF (Y.add hF rfl rfl) rfl fun a hF => step hF (Y.assign hF rfl) rfl fun a hF => nil (then_n (⟨_, nnxt_h h, v4_0, (wr (i + 1)), rfl, hF.weak ⟨rfl, rfl, rfl, rfl, rfl, trivial⟩, hS.weak ⟨rfl, trivial⟩⟩))))))
 replace h := ncond_f h hbv_7
 refine exit_ (then_x (then_x (blk_hit (then_n ?_))))
 replace h := next_h h
 refine seq (region (step hF (Y.assign hF rfl) rfl fun a hF => ?_))
 replace hS := hS.ownNil 2 3 1
 refine nil (then_n (seq (seq (region (step hF (Y.assign hF rfl) rfl fun a hF => nil (then_n (block (loop_cutN (body := w7SlaveLeft_b2 l set rv) (out := out) (fun s a w => ∃ (others : (List Int)) (i_1 : Int), ∃ p_7 c_7 cs, s = (others, i_1) ∧ Frm 120 [] [(1, .int .i64 set), (2, .pointer (some ⟨b, 0, none⟩)), (4, .bool v4_0), (5, .slice p_2 rv.1.length c_2), (8, .slice p_7 others.length c_7), (9, .int .i64 i_1)] a ∧ St w0 D0 Dv_5 [(1, .cells b [.int .i64 l.Ring, .slice p l.Starts.length c, .slice p_1 l.Events.length c_1] 25), (2, .own p_7 others.length c_7 cs 3 1)] w ∧ Reps C_int Dv_5 others cs) (([] : List Int), 0) h ⟨([] : List Int), 0, none, 0, ([]), rfl, hF.weak ⟨rfl, rfl, rfl, rfl, rfl, rfl, trivial⟩, hS.weak ⟨rfl, rfl, trivial⟩, Reps.nil⟩ ?_))))))))
 rintro s a w xo_1 ⟨others, i_1, p_7, c_7, cs, rfl, hF, hS, hr⟩ h
 unfold w7SlaveLeft_b2 at h
 try dsimp only at h
 refine seq (seq (region (step hF (Y.move hF rfl) rfl fun a hF => step hF (Y.fieldAddr fo_25_2 hF rfl) rfl fun a hF => step hF (Y.load1L 1 sz_23 hF rfl hS rfl rfl) rfl fun a hF => step hF (Y.lenSl u_23 hF rfl) rfl fun a hF => step hF (Y.lss hF rfl rfl) rfl fun a hF => nil (then_n (cond_b hF rfl (fun hbv_9 => ?_) (fun hbv_9 => ?_))))))
 ·replace h := ncond_t h hbv_9
  refine skip_ (then_n (seq (block (seq (region (step hF (Y.move hF rfl) rfl fun a hF => ?_))))))
  obtain ⟨rv_11, hx_10, h⟩ := ndet h
  refine O.callP (us := [.int .i64 set, .int .i64 1024]) ca_37 hF hS (r0Rest_ok hS.stab set 1024 rv_11 hx_10) rfl rfl fun a w hF hS => step hF (Y.move hF rfl) rfl fun a hF => ?_
  obtain ⟨rv_12, hx_11, h⟩ := ndet h
  refine O.callP (us := [.int .i64 rv_11, .int .i64 i_1]) ca_48 hF hS (r0In_ok hS.stab rv_11 i_1 rv_12 hx_11) rfl rfl fun a w hF hS => step hF (Y.move hF rfl) rfl fun a hF => ?_
  obtain ⟨t_4, ht_4, h⟩ := ndet h
  refine join (N := 120) (rs := []) (w0 := w0) (D0 := D0) 8 (us := [(1, .int .i64 set), (2, .pointer (some ⟨b, 0, none⟩)), (4, .bool v4_0), (5, .slice p_2 rv.1.length c_2), (8, .slice p_7 others.length c_7), (9, .int .i64 i_1), (88, .bool t_4)]) (ms := [(1, .cells b [.int .i64 l.Ring, .slice p l.Starts.length c, .slice p_1 l.Events.length c_1] 25), (2, .own p_7 others.length c_7 cs 3 1)]) (D' := Dv_5) ?_ ?_
  ·rcases bcases rv_12 with hbv_10 | hbv_10
   ·skip
    replace h := cond_t ht_4 hbv_10
    refine guard_on hF rfl rfl hbv_10 (step hF (Y.fieldAddr fo_25_2 hF rfl) rfl fun a hF => guard_on hF rfl rfl hbv_10 (step hF (Y.load1L 1 sz_23 hF rfl hS rfl rfl) rfl fun a hF => guard_on hF rfl rfl hbv_10 (step hF (Y.move hF rfl) rfl fun a hF => ?_)))
    obtain ⟨e_2, hx_12, h⟩ := bind_some h
    obtain ⟨b_3, o_2, hE_2, hY_2⟩ := Y.indexS (P := Tryd.prog) (C := C_SlaveEvent) (xs := l.Events) (T := 23) (x := (.tmp 82)) (y := (.tmp 83)) u_23 sz_66 hF rfl rfl (hs_1).1 hx_12
    obtain ⟨cc_2, hc_2, hcell_2⟩ := hE_2.open
    obtain rfl := C_SlaveEvent.open hc_2
    refine guard_on hF rfl rfl hbv_10 (step hF (hY_2) rfl fun a hF => guard_on hF rfl rfl hbv_10 (step hF (Y.fieldAddr fo_66_0 hF rfl) rfl fun a hF => guard_on hF rfl rfl hbv_10 (step hF (Y.load1 sz_3 hF rfl (hcell_2 _ hS.stab 0 _ rfl)) rfl fun a hF => guard_on hF rfl rfl hbv_10 (step hF (Y.eql hF rfl rfl) rfl fun a hF => step hF (Y.pick_t hF rfl hbv_10 rfl) rfl fun a hF => ?_))))
    obtain rfl := some_inj h
    exact nil (then_n ⟨hF.weak ⟨rfl, rfl, rfl, rfl, rfl, rfl, rfl, trivial⟩, hS.weak ⟨rfl, rfl, trivial⟩⟩)
   replace h := cond_f ht_4 hbv_10
   refine guard_off hF rfl rfl hbv_10 rfl fun a hF => guard_off hF rfl rfl hbv_10 rfl fun a hF => guard_off hF rfl rfl hbv_10 rfl fun a hF => guard_off hF rfl rfl hbv_10 rfl fun a hF => guard_off hF rfl rfl hbv_10 rfl fun a hF => guard_off hF rfl rfl hbv_10 rfl fun a hF => guard_off hF rfl rfl hbv_10 rfl fun a hF => step hF (Y.pick_f hF rfl hbv_10 rfl) rfl fun a hF => ?_
   obtain rfl := some_inj h
   exact nil (then_n ⟨hF.weak ⟨rfl, rfl, rfl, rfl, rfl, rfl, rfl, trivial⟩, hS.weak ⟨rfl, rfl, trivial⟩⟩)
  intro a w hF hS
  refine nil (then_n (cond_b hF rfl (fun hbv_11 => ?_) (fun hbv_11 => ?_)))
  ·replace h := ncond_t h hbv_11
   refine region (step hF (Y.move hF rfl) rfl fun a hF => step hF (Y.move hF rfl) rfl fun a hF => ?_)
   have hr_1 : Reps C_int Dv_5 [i_1] [.int .i64 i_1] := Reps.cons (C := C_int) (x := i_1) (c := [.int .i64 i_1]) (r := []) rfl (Reps.nil)
   refine O.buildSlice (E := 3) (C := C_int) (xs := [i_1]) (cs := [.int .i64 i_1]) (us := [.int .i64 i_1]) (parts := [(0, (.tmp 90))]) 3 hF hS rfl (by kernel_rfl) hr_1 rfl rfl rfl fun p_8 c_8 a w hF hS => ?_
   obtain ⟨hg, h⟩ := ngrd h
   refine O.append (C := C_int) (xs := others) (ys := [i_1]) 2 gr_26 hF rfl rfl hS rfl (src_own (i := 3) hS rfl) hr hr_1 hg rfl fun p_9 c_9 a w hF hS hr_2 => step hF (Y.assign hF rfl) rfl fun a hF => nil (blk_n (then_n (region (step hF (Y.move hF rfl) rfl fun a hF => step hF (Y.add hF rfl rfl) rfl fun a hF => step hF (Y.assign hF rfl) rfl fun a hF => nil (then_n (⟨_, nnxt_h h, (others ++ [i_1]), (wr (i_1 + 1)), p_9, c_9, (cs ++ [.int .i64 i_1]), rfl, hF.weak ⟨rfl, rfl, rfl, rfl, rfl, rfl, trivial⟩, hS.weak ⟨rfl, rfl, trivial⟩, hr_2⟩))))))
  replace h := ncond_f h hbv_11
  refine skip_ (blk_n (then_n (region (step hF (Y.move hF rfl) rfl fun a hF => step hF (Y.add hF rfl rfl) rfl fun a hF => step hF (Y.assign hF rfl) rfl fun a hF => nil (then_n (⟨_, nnxt_h h, others, (wr (i_1 + 1)), p_7, c_7, cs, rfl, hF.weak ⟨rfl, rfl, rfl, rfl, rfl, rfl, trivial⟩, hS.weak ⟨rfl, rfl, trivial⟩, hr⟩))))))
 replace h := ncond_f h hbv_9
 refine exit_ (then_x (then_x (blk_hit (then_n ?_))))
 replace h := next_h h
 refine seq (seq (region (step hF (Y.move hF rfl) rfl fun a hF => step hF (Y.lenSl u_26 hF rfl) rfl fun a hF => step hF (Y.move hF rfl) rfl fun a hF => step hF (Y.lenSl u_26 hF rfl) rfl fun a hF => step hF (Y.gtr hF rfl rfl) rfl fun a hF => step hF (Y.move hF rfl) rfl fun a hF => ?_)))
 obtain ⟨Dv_6, hlev_6, hs_7, hS⟩ := hS.freezeC (i := 2) (xs := others) rfl hr
 replace hs := hs.mono hlev_6
 replace hs_1 := hs_1.mono hlev_6
 replace hG := hG.mono hlev_6
 replace hs_2 := hs_2.mono hlev_6
 obtain ⟨t_6, ht_6, h⟩ := ndet h
 refine join (N := 120) (rs := []) (w0 := w0) (D0 := D0) 12 (us := [(2, .pointer (some ⟨b, 0, none⟩)), (4, .bool v4_0), (8, .slice p_7 others.length c_7), (110, .bool t_6)]) (ms := [(1, .cells b [.int .i64 l.Ring, .slice p l.Starts.length c, .slice p_1 l.Events.length c_1] 25)]) (D' := Dv_6) ?_ ?_
 ·rcases bcases (decide ((others.length : Int) > (rv.1.length : Int))) with hbv_12 | hbv_12
  ·skip
   replace h := cond_t ht_6 hbv_12
   refine guard_off hF rfl rfl hbv_12 rfl fun a hF => guard_off hF rfl rfl hbv_12 rfl fun a hF => guard_off hF rfl rfl hbv_12 rfl fun a hF => guard_off hF rfl rfl hbv_12 rfl fun a hF => guard_off hF rfl rfl hbv_12 rfl fun a hF => guard_off hF rfl rfl hbv_12 rfl fun a hF => guard_offu hF rfl rfl rfl fun a hF => guard_offu hF rfl rfl rfl fun a hF => guard_offu hF rfl rfl rfl fun a hF => guard_offu hF rfl rfl rfl fun a hF => guard_off hF rfl rfl hbv_12 rfl fun a hF => step hF (Y.pick_t hF rfl hbv_12 rfl) rfl fun a hF => ?_
   obtain rfl := some_inj h
   exact nil (then_n ⟨hF.weak ⟨rfl, rfl, rfl, rfl, trivial⟩, hS.weak ⟨rfl, trivial⟩⟩)
  replace h := cond_f ht_6 hbv_12
  refine guard_on hF rfl rfl hbv_12 (step hF (Y.move hF rfl) rfl fun a hF => guard_on hF rfl rfl hbv_12 (step hF (Y.lenSl u_26 hF rfl) rfl fun a hF => guard_on hF rfl rfl hbv_12 (step hF (Y.move hF rfl) rfl fun a hF => guard_on hF rfl rfl hbv_12 (step hF (Y.lenSl u_26 hF rfl) rfl fun a hF => guard_on hF rfl rfl hbv_12 (step hF (Y.eql hF rfl rfl) rfl fun a hF => guard_on hF rfl rfl hbv_12 (step hF (Y.move hF rfl) rfl fun a hF => ?_))))))
  obtain ⟨t_5, ht_5, h⟩ := bind_some h
  refine join (N := 120) (rs := []) (w0 := w0) (D0 := D0) 5 (us := [(2, .pointer (some ⟨b, 0, none⟩)), (4, .bool v4_0), (8, .slice p_7 others.length c_7), (98, .bool (decide ((others.length : Int) > (rv.1.length : Int)))), (109, .bool t_5)]) (ms := [(1, .cells b [.int .i64 l.Ring, .slice p l.Starts.length c, .slice p_1 l.Events.length c_1] 25)]) (D' := Dv_6) ?_ ?_
  ·rcases bcases ((others.length : Int) == (rv.1.length : Int)) with hbv_13 | hbv_13
   ·skip
    replace h := cond_t ht_5 hbv_13
    refine guard_on hF rfl rfl hbv_13 (step hF (Y.move hF rfl) rfl fun a hF => guard_on hF rfl rfl hbv_13 (step hF (Y.move hF rfl) rfl fun a hF => guard_on hF rfl rfl hbv_13 ?_))
    obtain ⟨rv_13, hx_13, h⟩ := bind_some h
    refine O.callP (us := [.slice p_7 others.length c_7, .slice p_2 rv.1.length c_2]) ca_49 hF hS (r0Ahead_ok hS.stab others rv.1 hs_7 hs_2 rv_13 hx_13) rfl rfl fun a w hF hS => guard_on hF rfl rfl hbv_13 (step hF (Y.not hF rfl) rfl fun a hF => guard_on hF rfl rfl hbv_12 (step hF (Y.pick_t hF rfl hbv_13 rfl) rfl fun a hF => ?_))
    obtain rfl := some_inj h
    exact nil (then_n ⟨hF.weak ⟨rfl, rfl, rfl, rfl, rfl, trivial⟩, hS.weak ⟨rfl, trivial⟩⟩)
   replace h := cond_f ht_5 hbv_13
   refine guard_off hF rfl rfl hbv_13 rfl fun a hF => guard_off hF rfl rfl hbv_13 rfl fun a hF => guard_off hF rfl rfl hbv_13 rfl fun a hF => guard_off hF rfl rfl hbv_13 rfl fun a hF => guard_on hF rfl rfl hbv_12 (step hF (Y.pick_f hF rfl hbv_13 rfl) rfl fun a hF => ?_)
   obtain rfl := some_inj h
   exact nil (then_n ⟨hF.weak ⟨rfl, rfl, rfl, rfl, rfl, trivial⟩, hS.weak ⟨rfl, trivial⟩⟩)
  intro a w hF hS
  refine step hF (Y.pick_f hF rfl hbv_12 rfl) rfl fun a hF => ?_
  obtain rfl := some_inj h
  exact nil (then_n ⟨hF.weak ⟨rfl, rfl, rfl, rfl, trivial⟩, hS.weak ⟨rfl, trivial⟩⟩)
 intro a w hF hS
 refine nil (then_n (cond_b hF rfl (fun hbv_14 => ?_) (fun hbv_14 => ?_)))
 ·replace h := ncond_t h hbv_14
  refine seq (region ?_)
  obtain ⟨KQ_7, hx_14, hk_7⟩ := nbnd_ex h
  refine O.callPN (us := []) ca_23 hF hS (w7works_ok hS.stab hG KQ_7 hx_14) rfl rfl fun rv_14 h a w hF hS => ?_
  replace h := hk_7 _ h
  refine step hF (Y.assign hF rfl) rfl fun a hF => nil (then_n (ret_ (then_r (leavePN _ (nret h) Tryd.results12 hF hS (.cons (.tmp rfl) .nil) .nil rfl))))
 replace h := ncond_f h hbv_14
 refine skip_ (then_n (seq (region (step hF (Y.loadNL 1 sz_25 hF rfl hS rfl rfl rfl) rfl fun a hF => step hF (Y.move hF rfl) rfl fun a hF => ?_))))
 obtain ⟨rv_15, hx_15, h⟩ := ndet h
 refine O.callS (us := [.agg #[.int .i64 l.Ring, .slice p l.Starts.length c, .slice p_1 l.Events.length c_1], .slice p_7 others.length c_7]) ca_47 hF hS (w7without_ok hS.stab l others hs hs_1 hs_7 rv_15 hx_15) rfl rfl fun v_3 Dv_7 a w hR_3 hlev_7 hF hS => ?_
 replace hG := hG.mono hlev_7
 obtain ⟨p_10, c_10, p_11, c_11, rfl, hs_8, hs_9⟩ := hR_3
 obtain ⟨KQ_8, hx_16, hk_8⟩ := nbnd_ex h
 refine O.callPN (us := [.agg #[.int .i64 rv_15.Ring, .slice p_10 rv_15.Starts.length c_10, .slice p_11 rv_15.Events.length c_11]]) ca_46 hF hS (w7all_ok hS.stab rv_15 hs_8 hs_9 hG KQ_8 hx_16) rfl rfl fun rv_16 h a w hF hS => ?_
 replace h := hk_8 _ h
 refine step hF (Y.not hF rfl) rfl fun a hF => step hF (Y.move hF rfl) rfl fun a hF => ?_
 obtain ⟨KQ_10, ht_7, hk_10⟩ := nbnd_ex h
 refine list_cut 2 (fun a w => ∃ (t_7 : Bool) (D : Stab), Dv_7.le D ∧ Frm 120 [] [(4, .bool v4_0), (119, .bool t_7)] a ∧ St w0 D0 D [(1, .cells b [.int .i64 l.Ring, .slice p l.Starts.length c, .slice p_1 l.Events.length c_1] 25)] w ∧ KQ_10 t_7) ?_ ?_
 ·rcases bcases (!rv_16) with hbv_15 | hbv_15
  ·skip
   replace h := ncond_t ht_7 hbv_15
   refine guard_on hF rfl rfl hbv_15 ?_
   obtain ⟨KQ_9, hx_17, hk_9⟩ := nbnd_ex h
   refine O.callPN (us := []) ca_23 hF hS (w7works_ok hS.stab hG KQ_9 hx_17) rfl rfl fun rv_18 h a w hF hS => ?_
   replace h := hk_9 _ h
   refine step hF (Y.pick_t hF rfl hbv_15 rfl) rfl fun a hF => nil (then_n ⟨_, Dv_7, Stab.le.refl _, hF.weak ⟨rfl, rfl, trivial⟩, hS.weak ⟨rfl, trivial⟩, nret h⟩)
  replace h := ncond_f ht_7 hbv_15
  refine guard_off hF rfl rfl hbv_15 rfl fun a hF => step hF (Y.pick_f hF rfl hbv_15 rfl) rfl fun a hF => nil (then_n ⟨_, Dv_7, Stab.le.refl _, hF.weak ⟨rfl, rfl, trivial⟩, hS.weak ⟨rfl, trivial⟩, nret h⟩)
 rintro a w ⟨t_7, Dv_8, hlev_8, hF, hS, h⟩
 replace h := hk_10 _ h
 refine step hF (Y.assign hF rfl) rfl fun a hF => nil (then_n (ret_ (leavePN _ (nret h) Tryd.results12 hF hS (.cons (.tmp rfl) .nil) .nil rfl)))
end Go.Proofs.YtmbgmefmkjeahaaDoor.Rt
