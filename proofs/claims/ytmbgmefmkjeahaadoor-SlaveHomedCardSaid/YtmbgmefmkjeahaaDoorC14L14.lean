/- Walks of the functions of this seat: what each Go function comes to, as a Lean function, and the proof. A law. Under no conditions. -/
import Derived.Test.YtmbgmefmkjeahaaDoorC14WHZ
set_option linter.unusedVariables false
set_option linter.unusedSimpArgs false
set_option maxRecDepth 100000
set_option maxHeartbeats 4000000
namespace Go.Proofs.YtmbgmefmkjeahaaDoor.Rt
open Go Go.RowKit
noncomputable def w7SlaveHomed_b2 (l : SlaveLine) (rv_2 : Int) (rv_3 : (Int × Int)) : (Bool × Int) → ND ((Bool × Int) ⊕ Bool)
 | (v4_1, who_1) =>
  cond (decide (who_1 < (l.Starts.length : Int)))
  ((ND.bnd (slave_Can (SlaveLine.mk l.Ring l.Starts (((([] : List SlaveEvent) ++ l.Events) ++ [(SlaveEvent.mk 1 0 rv_3.1 rv_2 0 0)]).set (Int.toNat (l.Events.length : Int)) (SlaveEvent.mk 1 0 (wr (rv_3.1 - 1)) rv_2 0 0))) who_1) fun rv_13 =>
  (ND.det (cond (rv_13.2 != 0) (some true) ((r0Alike rv_13.1 ([0])).bind fun rv_14 =>
  some (!rv_14))) fun t_3 =>
  cond t_3
  ((ND.bnd (cond (rv_13.2 == 0) ((ND.bnd (w7works) fun rv_16 =>
  ND.ret rv_16)) (ND.ret false)) fun t_4 =>
  next_ (ND.ret t_4)))
  (nnxt (v4_1, wr (who_1 + 1))))))
  (next_ (ND.ret false))
noncomputable def w7SlaveHomed_b1 (l : SlaveLine) (rv_2 : Int) (rv_3 : (Int × Int)) : (Bool × Int) → ND ((Bool × Int) ⊕ Bool)
 | (v4_0, who) =>
  cond (decide (who < (l.Starts.length : Int)))
  ((ND.bnd (slave_Can (SlaveLine.mk l.Ring l.Starts ((([] : List SlaveEvent) ++ l.Events) ++ [(SlaveEvent.mk 1 0 rv_3.1 rv_2 0 0)])) who) fun rv_10 =>
  (ND.det (cond (rv_10.2 != 0) (some true) ((r0Alike rv_10.1 ([0])).bind fun rv_11 =>
  some (!rv_11))) fun t_2 =>
  cond t_2
  (next_ (ND.ret false))
  (nnxt (v4_0, wr (who + 1))))))
  (next_ (cond (rv_3.1 == 0)
  ((ND.bnd (w7works) fun rv_12 =>
  ND.ret rv_12))
  ((ND.grd ((0 : Int) ≤ (l.Events.length : Int) ∧ (l.Events.length : Int) < (((([] : List SlaveEvent) ++ l.Events) ++ [(SlaveEvent.mk 1 0 rv_3.1 rv_2 0 0)]).length : Int)) (
  loopN (w7SlaveHomed_b2 l rv_2 rv_3) (v4_0, 0))))))
noncomputable def w7SlaveHomed (l : SlaveLine) (lost : Int) : ND Bool :=
  (ND.det (w7sound l) fun rv =>
  cond ((!rv) || ((l.Events.length : Int) == 10))
  ((ND.bnd (w7works) fun rv_1 =>
  ND.ret rv_1))
  ((ND.det (r0Rest lost 4) fun rv_2 =>
  (ND.bnd (slave_Homes l rv_2) fun rv_3 =>
  cond (rv_3.2 != 0)
  ((ND.bnd (cond ((rv_3.2 == 72) && (rv_3.1 == 0)) ((ND.bnd (w7all l) fun rv_5 =>
  ND.ret (!rv_5))) (ND.ret false)) fun t =>
  (ND.bnd (cond t ((ND.bnd (w7works) fun rv_7 =>
  ND.ret rv_7)) (ND.ret false)) fun t_1 =>
  ND.ret t_1)))
  ((ND.det (r0Lies rv_3.1 0 (wr (l.Ring + rv_2))) fun rv_8 =>
  cond (!rv_8)
  (ND.ret false)
  (cond (decide (rv_3.1 > 60))
  ((ND.bnd (w7works) fun rv_9 =>
  ND.ret rv_9))
  ((ND.grd (([] : List SlaveEvent).length + l.Events.length ≤ lim) (
  (ND.grd ((([] : List SlaveEvent) ++ l.Events).length + ([(SlaveEvent.mk 1 0 rv_3.1 rv_2 0 0)]).length ≤ lim) (
  loopN (w7SlaveHomed_b1 l rv_2 rv_3) (false, 0)))))))))))))
theorem w7SlaveHomed_ok {w0 : World} {D0 : Stab} (hD : D0.on w0) (l : SlaveLine) (lost : Int) {p : Option Addr} {c : Nat} {p_1 : Option Addr} {c_1 : Nat} (hs : SRc C_SlaveStart D0 l.Starts p c) (hs_1 : SRc C_SlaveEvent D0 l.Events p_1 c_1) (hG : Glob D0) (out : Bool → Prop) (h : w7SlaveHomed l lost out) : Calls Tryd.prog 14 [.agg #[.int .i64 l.Ring, .slice p l.Starts.length c, .slice p_1 l.Events.length c_1], .int .i64 lost].toArray w0 (RetPN D0 w0 out fun (out : Bool) => .bool out) := by
 refine enter _ 130 Tryd.func14 rfl Tryd.ntmps14 rfl fun a hF => ?_
 replace hF : Frm 130 [] [(0, .agg #[.int .i64 l.Ring, .slice p l.Starts.length c, .slice p_1 l.Events.length c_1]), (1, .int .i64 lost)] a := hF
 have hS := St.start hD
 unfold w7SlaveHomed at h
 refine seq (region (O.box (cs := [.int .i64 l.Ring, .slice p l.Starts.length c, .slice p_1 l.Events.length c_1]) 1 hF rfl rfl hS rfl fun b a w hF hS => step hF (Y.assign hF rfl) rfl fun a hF => nil (then_n (seq (seq (region (step hF (Y.loadNL 1 sz_25 hF rfl hS rfl rfl rfl) rfl fun a hF => ?_)))))))
 obtain ⟨rv, hx, h⟩ := ndet h
 refine O.callP (us := [.agg #[.int .i64 l.Ring, .slice p l.Starts.length c, .slice p_1 l.Events.length c_1]]) ca_36 hF hS (w7sound_ok hS.stab l hs hs_1 rv hx) rfl rfl fun a w hF hS => step hF (Y.not hF rfl) rfl fun a hF => step hF (Y.move hF rfl) rfl fun a hF => join (N := 130) (rs := []) (w0 := w0) (D0 := D0) 5 (us := [(1, .int .i64 lost), (2, .pointer (some ⟨b, 0, none⟩)), (4, .bool false), (23, .bool ((!rv) || ((l.Events.length : Int) == 10)))]) (ms := [(1, .cells b [.int .i64 l.Ring, .slice p l.Starts.length c, .slice p_1 l.Events.length c_1] 25)]) (D' := D0) ?_ ?_
 ·rcases bcases (!rv) with hbv | hbv
  ·skip
   refine guard_off hF rfl rfl hbv rfl fun a hF => guard_off hF rfl rfl hbv rfl fun a hF => guard_off hF rfl rfl hbv rfl fun a hF => guard_off hF rfl rfl hbv rfl fun a hF => step hF (Y.pick_t hF rfl hbv rfl) rfl fun a hF => nil (then_n ⟨hF.weak ⟨rfl, rfl, rfl, (by rw [hbv]; rfl), trivial⟩, hS.weak ⟨rfl, trivial⟩⟩)
  refine guard_on hF rfl rfl hbv (step hF (Y.fieldAddr fo_25_2 hF rfl) rfl fun a hF => guard_on hF rfl rfl hbv (step hF (Y.load1L 1 sz_23 hF rfl hS rfl rfl) rfl fun a hF => guard_on hF rfl rfl hbv (step hF (Y.lenSl u_23 hF rfl) rfl fun a hF => guard_on hF rfl rfl hbv (step hF (Y.eql hF rfl rfl) rfl fun a hF => step hF (Y.pick_f hF rfl hbv rfl) rfl fun a hF => nil (then_n ⟨hF.weak ⟨rfl, rfl, rfl, (by rw [hbv]; rfl), trivial⟩, hS.weak ⟨rfl, trivial⟩⟩)))))
 intro a w hF hS
 refine nil (then_n (cond_b hF rfl (fun hbv_1 => ?_) (fun hbv_1 => ?_)))
 ·replace h := ncond_t h hbv_1
  refine seq (region ?_)
  obtain ⟨KQ, hx_1, hk⟩ := nbnd_ex h
  refine O.callPN (us := []) ca_23 hF hS (w7works_ok hS.stab hG KQ hx_1) rfl rfl fun rv_1 h a w hF hS => ?_
  replace h := hk _ h
  refine step hF (Y.assign hF rfl) rfl fun a hF => nil (then_n (ret_ (then_r (leavePN _ (nret h) Tryd.results14 hF hS (.cons (.tmp rfl) .nil) .nil rfl))))
 replace h := ncond_f h hbv_1
 refine skip_ (then_n (seq (region (step hF (Y.move hF rfl) rfl fun a hF => ?_))))
 obtain ⟨rv_2, hx_2, h⟩ := ndet h
 refine O.callP (us := [.int .i64 lost, .int .i64 4]) ca_37 hF hS (r0Rest_ok hS.stab lost 4 rv_2 hx_2) rfl rfl fun a w hF hS => step hF (Y.assign hF rfl) rfl fun a hF => nil (then_n (seq (region (step hF (Y.loadNL 1 sz_25 hF rfl hS rfl rfl rfl) rfl fun a hF => step hF (Y.move hF rfl) rfl fun a hF => ?_))))
 obtain ⟨KQ_1, hx_3, hk_1⟩ := nbnd_ex h
 refine O.callPN (us := [.agg #[.int .i64 l.Ring, .slice p l.Starts.length c, .slice p_1 l.Events.length c_1], .int .i64 rv_2]) ca_30 hF hS (slave_Homes_ok hS.stab l rv_2 hs hs_1 hG KQ_1 hx_3) rfl rfl fun rv_3 h a w hF hS => ?_
 replace h := hk_1 _ h
 refine step hF (Y.move hF rfl) rfl fun a hF => step hF (Y.extract hF rfl rfl) rfl fun a hF => step hF (Y.extract hF rfl rfl) rfl fun a hF => step hF (Y.assign hF rfl) rfl fun a hF => step hF (Y.assign hF rfl) rfl fun a hF => nil (then_n (seq (seq (region (step hF (Y.move hF rfl) rfl fun a hF => step hF (Y.neq hF rfl rfl) rfl fun a hF => nil (then_n (cond_b hF rfl (fun hbv_2 => ?_) (fun hbv_2 => ?_))))))))
 ·replace h := ncond_t h hbv_2
  refine seq (region (step hF (Y.move hF rfl) rfl fun a hF => step hF (Y.eql hF rfl rfl) rfl fun a hF => step hF (Y.move hF rfl) rfl fun a hF => join (N := 130) (rs := []) (w0 := w0) (D0 := D0) 3 (us := [(2, .pointer (some ⟨b, 0, none⟩)), (4, .bool false), (5, .int .i64 rv_2), (6, .int .i64 rv_3.1), (40, .bool ((rv_3.2 == 72) && (rv_3.1 == 0)))]) (ms := [(1, .cells b [.int .i64 l.Ring, .slice p l.Starts.length c, .slice p_1 l.Events.length c_1] 25)]) (D' := D0) ?_ ?_))
  ·rcases bcases (rv_3.2 == 72) with hbv_3 | hbv_3
   ·skip
    refine guard_on hF rfl rfl hbv_3 (step hF (Y.move hF rfl) rfl fun a hF => guard_on hF rfl rfl hbv_3 (step hF (Y.eql hF rfl rfl) rfl fun a hF => step hF (Y.pick_t hF rfl hbv_3 rfl) rfl fun a hF => nil (then_n ⟨hF.weak ⟨rfl, rfl, rfl, rfl, (by rw [hbv_3]; rfl), trivial⟩, hS.weak ⟨rfl, trivial⟩⟩)))
   refine guard_off hF rfl rfl hbv_3 rfl fun a hF => guard_off hF rfl rfl hbv_3 rfl fun a hF => step hF (Y.pick_f hF rfl hbv_3 rfl) rfl fun a hF => nil (then_n ⟨hF.weak ⟨rfl, rfl, rfl, rfl, (by rw [hbv_3]; rfl), trivial⟩, hS.weak ⟨rfl, trivial⟩⟩)
  intro a w hF hS
  refine step hF (Y.move hF rfl) rfl fun a hF => ?_
  obtain ⟨KQ_3, ht, hk_3⟩ := nbnd_ex h
  refine list_cut 4 (fun a w => ∃ (t : Bool) (D : Stab), D0.le D ∧ Frm 130 [] [(2, .pointer (some ⟨b, 0, none⟩)), (4, .bool false), (5, .int .i64 rv_2), (6, .int .i64 rv_3.1), (45, .bool t)] a ∧ St w0 D0 D [(1, .cells b [.int .i64 l.Ring, .slice p l.Starts.length c, .slice p_1 l.Events.length c_1] 25)] w ∧ KQ_3 t) ?_ ?_
  ·rcases bcases ((rv_3.2 == 72) && (rv_3.1 == 0)) with hbv_4 | hbv_4
   ·skip
    replace h := ncond_t ht hbv_4
    refine guard_on hF rfl rfl hbv_4 (step hF (Y.loadNL 1 sz_25 hF rfl hS rfl rfl rfl) rfl fun a hF => guard_on hF rfl rfl hbv_4 ?_)
    obtain ⟨KQ_2, hx_4, hk_2⟩ := nbnd_ex h
    refine O.callPN (us := [.agg #[.int .i64 l.Ring, .slice p l.Starts.length c, .slice p_1 l.Events.length c_1]]) ca_46 hF hS (w7all_ok hS.stab l hs hs_1 hG KQ_2 hx_4) rfl rfl fun rv_5 h a w hF hS => ?_
    replace h := hk_2 _ h
    refine guard_on hF rfl rfl hbv_4 (step hF (Y.not hF rfl) rfl fun a hF => step hF (Y.pick_t hF rfl hbv_4 rfl) rfl fun a hF => nil (then_n ⟨_, D0, Stab.le.refl _, hF.weak ⟨rfl, rfl, rfl, rfl, rfl, trivial⟩, hS.weak ⟨rfl, trivial⟩, nret h⟩))
   replace h := ncond_f ht hbv_4
   refine guard_off hF rfl rfl hbv_4 rfl fun a hF => guard_off hF rfl rfl hbv_4 rfl fun a hF => guard_off hF rfl rfl hbv_4 rfl fun a hF => step hF (Y.pick_f hF rfl hbv_4 rfl) rfl fun a hF => nil (then_n ⟨_, D0, Stab.le.refl _, hF.weak ⟨rfl, rfl, rfl, rfl, rfl, trivial⟩, hS.weak ⟨rfl, trivial⟩, nret h⟩)
  rintro a w ⟨t, Dv, hlev, hF, hS, h⟩
  replace h := hk_3 _ h
  replace hG := hG.mono hlev
  refine step hF (Y.move hF rfl) rfl fun a hF => ?_
  obtain ⟨KQ_5, ht_1, hk_5⟩ := nbnd_ex h
  refine list_cut 2 (fun a w => ∃ (t_1 : Bool) (D : Stab), Dv.le D ∧ Frm 130 [] [(2, .pointer (some ⟨b, 0, none⟩)), (4, .bool false), (5, .int .i64 rv_2), (6, .int .i64 rv_3.1), (48, .bool t_1)] a ∧ St w0 D0 D [(1, .cells b [.int .i64 l.Ring, .slice p l.Starts.length c, .slice p_1 l.Events.length c_1] 25)] w ∧ KQ_5 t_1) ?_ ?_
  ·rcases bcases t with hbv_5 | hbv_5
   ·skip
    replace h := ncond_t ht_1 hbv_5
    refine guard_on hF rfl rfl hbv_5 ?_
    obtain ⟨KQ_4, hx_5, hk_4⟩ := nbnd_ex h
    refine O.callPN (us := []) ca_23 hF hS (w7works_ok hS.stab hG KQ_4 hx_5) rfl rfl fun rv_7 h a w hF hS => ?_
    replace h := hk_4 _ h
    refine step hF (Y.pick_t hF rfl hbv_5 rfl) rfl fun a hF => nil (then_n ⟨_, Dv, Stab.le.refl _, hF.weak ⟨rfl, rfl, rfl, rfl, rfl, trivial⟩, hS.weak ⟨rfl, trivial⟩, nret h⟩)
   replace h := ncond_f ht_1 hbv_5
   refine guard_off hF rfl rfl hbv_5 rfl fun a hF => step hF (Y.pick_f hF rfl hbv_5 rfl) rfl fun a hF => nil (then_n ⟨_, Dv, Stab.le.refl _, hF.weak ⟨rfl, rfl, rfl, rfl, rfl, trivial⟩, hS.weak ⟨rfl, trivial⟩, nret h⟩)
  rintro a w ⟨t_1, Dv_1, hlev_1, hF, hS, h⟩
  replace h := hk_5 _ h
  refine step hF (Y.assign hF rfl) rfl fun a hF => nil (then_n (ret_ (then_r (leavePN _ (nret h) Tryd.results14 hF hS (.cons (.tmp rfl) .nil) .nil rfl))))
 replace h := ncond_f h hbv_2
 refine skip_ (then_n (seq (seq (region (step hF (Y.move hF rfl) rfl fun a hF => step hF (Y.fieldAddr fo_25_0 hF rfl) rfl fun a hF => step hF (Y.load1L 1 sz_3 hF rfl hS rfl rfl) rfl fun a hF => step hF (Y.move hF rfl) rfl fun a hF => step hF (Y.add hF rfl rfl) rfl fun a hF => ?_)))))
 obtain ⟨rv_8, hx_6, h⟩ := ndet h
 refine O.callP (us := [.int .i64 rv_3.1, .int .i64 0, .int .i64 (wr (l.Ring + rv_2))]) ca_50 hF hS (r0Lies_ok hS.stab rv_3.1 0 (wr (l.Ring + rv_2)) rv_8 hx_6) rfl rfl fun a w hF hS => step hF (Y.not hF rfl) rfl fun a hF => nil (then_n (cond_b hF rfl (fun hbv_6 => ?_) (fun hbv_6 => ?_)))
 ·replace h := ncond_t h hbv_6
  refine seq (region (step hF (Y.assign hF rfl) rfl fun a hF => nil (then_n (ret_ (then_r (leavePN _ (nret h) Tryd.results14 hF hS (.cons (.tmp rfl) .nil) .nil rfl))))))
 replace h := ncond_f h hbv_6
 refine skip_ (then_n (seq (seq (region (step hF (Y.move hF rfl) rfl fun a hF => step hF (Y.gtr hF rfl rfl) rfl fun a hF => nil (then_n (cond_b hF rfl (fun hbv_7 => ?_) (fun hbv_7 => ?_))))))))
 ·replace h := ncond_t h hbv_7
  refine seq (region ?_)
  obtain ⟨KQ_6, hx_7, hk_6⟩ := nbnd_ex h
  refine O.callPN (us := []) ca_23 hF hS (w7works_ok hS.stab hG KQ_6 hx_7) rfl rfl fun rv_9 h a w hF hS => ?_
  replace h := hk_6 _ h
  refine step hF (Y.assign hF rfl) rfl fun a hF => nil (then_n (ret_ (then_r (leavePN _ (nret h) Tryd.results14 hF hS (.cons (.tmp rfl) .nil) .nil rfl))))
 replace h := ncond_f h hbv_7
 refine skip_ (then_n (seq (region (step hF (Y.loadNL 1 sz_25 hF rfl hS rfl rfl rfl) rfl fun a hF => O.alloc 2 zc_25 hF hS rfl fun b_1 a w hF hS => O.store (us := [.int .i64 l.Ring, .slice p l.Starts.length c, .slice p_1 l.Events.length c_1]) 2 sz_25 hF rfl rfl rfl rfl hS rfl rfl fun a w hF hS => nil (then_n (seq (region ?_)))))))
 have hr : Reps C_SlaveEvent D0 ([] : List SlaveEvent) [] := Reps.nil
 refine O.buildSlice (E := 66) (C := C_SlaveEvent) (xs := ([] : List SlaveEvent)) (cs := []) (us := []) (parts := []) 3 hF hS rfl (by kernel_rfl) hr rfl rfl rfl fun p_2 c_2 a w hF hS => step hF (Y.fieldAddr fo_25_2 hF rfl) rfl fun a hF => step hF (Y.load1L 1 sz_23 hF rfl hS rfl rfl) rfl fun a hF => ?_
 obtain ⟨hg, h⟩ := ngrd h
 obtain ⟨ds, hds, hsrc⟩ := src_stab (C := C_SlaveEvent) (xs := l.Events) (hs_1).1 hS.stab
 refine O.append (C := C_SlaveEvent) (xs := ([] : List SlaveEvent)) (ys := l.Events) 3 gr_23 hF rfl rfl hS rfl hsrc hr hds hg rfl fun p_3 c_3 a w hF hS hr_1 => step hF (Y.move hF rfl) rfl fun a hF => step hF (Y.move hF rfl) rfl fun a hF => step hF (Y.build (parts := [(0, (.const (.int .i64 1))), (2, (.tmp 64)), (3, (.tmp 65))]) (cs := #[.int .i64 1, .int .i64 0, .int .i64 rv_3.1, .int .i64 rv_2, .int .i64 0, .int .i64 0]) hF rfl (by kernel_rfl)) rfl fun a hF => ?_
 have hr_2 : Reps C_SlaveEvent D0 [(SlaveEvent.mk 1 0 rv_3.1 rv_2 0 0)] [.int .i64 1, .int .i64 0, .int .i64 rv_3.1, .int .i64 rv_2, .int .i64 0, .int .i64 0] := Reps.cons (C := C_SlaveEvent) (x := (SlaveEvent.mk 1 0 rv_3.1 rv_2 0 0)) (c := [.int .i64 1, .int .i64 0, .int .i64 rv_3.1, .int .i64 rv_2, .int .i64 0, .int .i64 0]) (r := []) rfl (Reps.nil)
 refine O.buildSlice (E := 66) (C := C_SlaveEvent) (xs := [(SlaveEvent.mk 1 0 rv_3.1 rv_2 0 0)]) (cs := [.int .i64 1, .int .i64 0, .int .i64 rv_3.1, .int .i64 rv_2, .int .i64 0, .int .i64 0]) (us := [.agg #[.int .i64 1, .int .i64 0, .int .i64 rv_3.1, .int .i64 rv_2, .int .i64 0, .int .i64 0]]) (parts := [(0, (.tmp 66))]) 4 hF hS rfl (by kernel_rfl) hr_2 rfl rfl rfl fun p_4 c_4 a w hF hS => ?_
 obtain ⟨hg_1, h⟩ := ngrd h
 refine O.append (C := C_SlaveEvent) (xs := (([] : List SlaveEvent) ++ l.Events)) (ys := [(SlaveEvent.mk 1 0 rv_3.1 rv_2 0 0)]) 3 gr_23 hF rfl rfl hS rfl (src_own (i := 4) hS rfl) hr_1 hr_2 hg_1 rfl fun p_5 c_5 a w hF hS hr_3 => step hF (Y.fieldAddr fo_25_2 hF rfl) rfl fun a hF => O.store (us := [.slice p_5 ((([] : List SlaveEvent) ++ l.Events) ++ [(SlaveEvent.mk 1 0 rv_3.1 rv_2 0 0)]).length c_5]) 2 sz_23 hF rfl rfl rfl rfl hS rfl rfl fun a w hF hS => nil (then_n (seq (seq (region (step hF (Y.assign hF rfl) rfl fun a hF => nil (then_n (block (loop_cutN (body := w7SlaveHomed_b1 l rv_2 rv_3) (out := out) (fun s a w => ∃ (v4_0 : Bool) (who : Int), ∃ (Dv_2 : Stab), s = (v4_0, who) ∧ D0.le Dv_2 ∧ Frm 130 [] [(2, .pointer (some ⟨b, 0, none⟩)), (4, .bool v4_0), (5, .int .i64 rv_2), (6, .int .i64 rv_3.1), (8, .pointer (some ⟨b_1, 0, none⟩)), (9, .int .i64 who)] a ∧ St w0 D0 Dv_2 [(1, .cells b [.int .i64 l.Ring, .slice p l.Starts.length c, .slice p_1 l.Events.length c_1] 25), (2, .cells b_1 [.int .i64 l.Ring, .slice p l.Starts.length c, .slice p_5 ((([] : List SlaveEvent) ++ l.Events) ++ [(SlaveEvent.mk 1 0 rv_3.1 rv_2 0 0)]).length c_5] 25), (3, .own p_5 ((([] : List SlaveEvent) ++ l.Events) ++ [(SlaveEvent.mk 1 0 rv_3.1 rv_2 0 0)]).length c_5 (([] ++ ds) ++ [.int .i64 1, .int .i64 0, .int .i64 rv_3.1, .int .i64 rv_2, .int .i64 0, .int .i64 0]) 66 6), (4, .own p_4 ([(SlaveEvent.mk 1 0 rv_3.1 rv_2 0 0)]).length c_4 ([.int .i64 1, .int .i64 0, .int .i64 rv_3.1, .int .i64 rv_2, .int .i64 0, .int .i64 0]) 66 6)] w) (false, 0) h ⟨false, 0, D0, rfl, Stab.le.refl _, hF.weak ⟨rfl, rfl, rfl, rfl, rfl, rfl, trivial⟩, hS.weak ⟨rfl, rfl, rfl, rfl, trivial⟩⟩ ?_))))))))
 rintro s a w xo ⟨v4_0, who, Dv_2, rfl, hlev_2, hF, hS⟩ h
 unfold w7SlaveHomed_b1 at h
 try dsimp only at h
 replace hs := hs.mono hlev_2
 replace hG := hG.mono hlev_2
 replace hr_3 := hr_3.mono hlev_2
 refine seq (seq (region (step hF (Y.move hF rfl) rfl fun a hF => step hF (Y.fieldAddr fo_25_1 hF rfl) rfl fun a hF => step hF (Y.load1L 1 sz_22 hF rfl hS rfl rfl) rfl fun a hF => step hF (Y.lenSl u_22 hF rfl) rfl fun a hF => step hF (Y.lss hF rfl rfl) rfl fun a hF => nil (then_n (cond_b hF rfl (fun hbv_8 => ?_) (fun hbv_8 => ?_))))))
 ·replace h := ncond_t h hbv_8
  refine skip_ (then_n (seq (block (seq (region (step hF (Y.loadNL 2 sz_25 hF rfl hS rfl rfl rfl) rfl fun a hF => step hF (Y.move hF rfl) rfl fun a hF => ?_))))))
  have hSb := hS
  obtain ⟨Dv_3, hlev_3, hs_2, hSb⟩ := hSb.freezeC (i := 3) (xs := ((([] : List SlaveEvent) ++ l.Events) ++ [(SlaveEvent.mk 1 0 rv_3.1 rv_2 0 0)])) rfl hr_3
  obtain ⟨KQ_7, hx_8, hk_7⟩ := nbnd_ex h
  refine O.callM (us := [.agg #[.int .i64 l.Ring, .slice p l.Starts.length c, .slice p_5 ((([] : List SlaveEvent) ++ l.Events) ++ [(SlaveEvent.mk 1 0 rv_3.1 rv_2 0 0)]).length c_5], .int .i64 who]) ca_16 hF (slave_Can_keep hSb.stab (SlaveLine.mk l.Ring l.Starts ((([] : List SlaveEvent) ++ l.Events) ++ [(SlaveEvent.mk 1 0 rv_3.1 rv_2 0 0)])) who (hs.mono hlev_3) hs_2 (hG.mono hlev_3) KQ_7 hx_8) rfl rfl fun v Dv_4 a w hK hlev_4 hF => ?_
  obtain ⟨rv_10, hq, p_6, c_6, cs, hS2_0, rfl, hr_4⟩ := hK
  replace h := hk_7 _ hq
  replace hS := hS.joinB hS2_0
  replace hr_4 := Reps.flat (D' := Dv_2) (fun _ _ _ _ h => h) hr_4
  replace hS := hS.move 5 900 rfl (by decide)
  replace hS := hS.weak (ms := [(1, .cells b [.int .i64 l.Ring, .slice p l.Starts.length c, .slice p_1 l.Events.length c_1] 25), (2, .cells b_1 [.int .i64 l.Ring, .slice p l.Starts.length c, .slice p_5 ((([] : List SlaveEvent) ++ l.Events) ++ [(SlaveEvent.mk 1 0 rv_3.1 rv_2 0 0)]).length c_5] 25), (3, .own p_5 ((([] : List SlaveEvent) ++ l.Events) ++ [(SlaveEvent.mk 1 0 rv_3.1 rv_2 0 0)]).length c_5 (([] ++ ds) ++ [.int .i64 1, .int .i64 0, .int .i64 rv_3.1, .int .i64 rv_2, .int .i64 0, .int .i64 0]) 66 6), (4, .own p_4 ([(SlaveEvent.mk 1 0 rv_3.1 rv_2 0 0)]).length c_4 ([.int .i64 1, .int .i64 0, .int .i64 rv_3.1, .int .i64 rv_2, .int .i64 0, .int .i64 0]) 66 6), (5, .own p_6 rv_10.1.length c_6 cs 3 1)]) ⟨rfl, rfl, rfl, rfl, rfl, trivial⟩
  refine step hF (Y.move hF rfl) rfl fun a hF => step hF (Y.extract hF rfl rfl) rfl fun a hF => step hF (Y.extract hF rfl rfl) rfl fun a hF => step hF (Y.assign hF rfl) rfl fun a hF => step hF (Y.assign hF rfl) rfl fun a hF => nil (then_n (seq (region (step hF (Y.move hF rfl) rfl fun a hF => step hF (Y.neq hF rfl rfl) rfl fun a hF => step hF (Y.move hF rfl) rfl fun a hF => ?_))))
  obtain ⟨t_2, ht_2, h⟩ := ndet h
  refine join (N := 130) (rs := []) (w0 := w0) (D0 := D0) 5 (us := [(2, .pointer (some ⟨b, 0, none⟩)), (4, .bool v4_0), (5, .int .i64 rv_2), (6, .int .i64 rv_3.1), (8, .pointer (some ⟨b_1, 0, none⟩)), (9, .int .i64 who), (90, .bool t_2)]) (ms := [(1, .cells b [.int .i64 l.Ring, .slice p l.Starts.length c, .slice p_1 l.Events.length c_1] 25), (2, .cells b_1 [.int .i64 l.Ring, .slice p l.Starts.length c, .slice p_5 ((([] : List SlaveEvent) ++ l.Events) ++ [(SlaveEvent.mk 1 0 rv_3.1 rv_2 0 0)]).length c_5] 25), (3, .own p_5 ((([] : List SlaveEvent) ++ l.Events) ++ [(SlaveEvent.mk 1 0 rv_3.1 rv_2 0 0)]).length c_5 (([] ++ ds) ++ [.int .i64 1, .int .i64 0, .int .i64 rv_3.1, .int .i64 rv_2, .int .i64 0, .int .i64 0]) 66 6), (4, .own p_4 ([(SlaveEvent.mk 1 0 rv_3.1 rv_2 0 0)]).length c_4 ([.int .i64 1, .int .i64 0, .int .i64 rv_3.1, .int .i64 rv_2, .int .i64 0, .int .i64 0]) 66 6), (5, .own p_6 rv_10.1.length c_6 cs 3 1)]) (D' := Dv_2) ?_ ?_
  ·rcases bcases (rv_10.2 != 0) with hbv_9 | hbv_9
   ·skip
    replace h := cond_t ht_2 hbv_9
    refine guard_off hF rfl rfl hbv_9 rfl fun a hF => guard_off hF rfl rfl hbv_9 rfl fun a hF => guard_off hF rfl rfl hbv_9 rfl fun a hF => guard_off hF rfl rfl hbv_9 rfl fun a hF => step hF (Y.pick_t hF rfl hbv_9 rfl) rfl fun a hF => ?_
    obtain rfl := some_inj h
    exact nil (then_n ⟨hF.weak ⟨rfl, rfl, rfl, rfl, rfl, rfl, rfl, trivial⟩, hS.weak ⟨rfl, rfl, rfl, rfl, rfl, trivial⟩⟩)
   replace h := cond_f ht_2 hbv_9
   refine guard_on hF rfl rfl hbv_9 (step hF (Y.move hF rfl) rfl fun a hF => guard_on hF rfl rfl hbv_9 ?_)
   have hr_5 : Reps C_int Dv_2 [0] [.int .i64 0] := Reps.cons (C := C_int) (x := 0) (c := [.int .i64 0]) (r := []) rfl (Reps.nil)
   refine O.buildSlice (E := 3) (C := C_int) (xs := [0]) (cs := [.int .i64 0]) (us := [.int .i64 0]) (parts := [(0, (.const (.int .i64 0)))]) 6 hF hS rfl (by kernel_rfl) hr_5 rfl rfl rfl fun p_7 c_7 a w hF hS => guard_on hF rfl rfl hbv_9 ?_
   have hSb := hS
   obtain ⟨Dv_5, hlev_5, hs_4, hSb⟩ := hSb.freezeC (i := 5) (xs := rv_10.1) rfl hr_4
   obtain ⟨Dv_6, hlev_6, hs_5, hSb⟩ := hSb.freezeC (i := 6) (xs := [0]) rfl (hr_5.mono hlev_5)
   obtain ⟨rv_11, hx_9, h⟩ := bind_some h
   refine O.callPB (us := [.slice p_6 rv_10.1.length rv_10.1.length, .slice p_7 ([0]).length c_7]) ca_18 hF hS (r0Alike_ok hSb.stab rv_10.1 ([0]) (⟨(hs_4.mono hlev_6).1, Nat.le_refl _⟩ : SRc _ _ _ _ _) hs_5 rv_11 hx_9) rfl rfl fun a w hF hS => guard_on hF rfl rfl hbv_9 (step hF (Y.not hF rfl) rfl fun a hF => step hF (Y.pick_f hF rfl hbv_9 rfl) rfl fun a hF => ?_)
   obtain rfl := some_inj h
   exact nil (then_n ⟨hF.weak ⟨rfl, rfl, rfl, rfl, rfl, rfl, rfl, trivial⟩, hS.weak ⟨rfl, rfl, rfl, rfl, rfl, trivial⟩⟩)
  intro a w hF hS
  refine nil (then_n (cond_b hF rfl (fun hbv_10 => ?_) (fun hbv_10 => ?_)))
  ·replace h := ncond_t h hbv_10
   refine seq (region (step hF (Y.assign hF rfl) rfl fun a hF => nil (then_n (ret_ (blk_r (then_r (then_r (blk_r (then_r ?_)))))))))
   replace h := next_h h
   exact leavePN _ (nret h) Tryd.results14 hF hS (.cons (.tmp rfl) .nil) .nil rfl
  replace h := ncond_f h hbv_10
  refine skip_ (blk_n (then_n (region (step hF (Y.move hF rfl) rfl fun a hF => step hF (Y.add hF rfl rfl) rfl fun a hF => step hF (Y.assign hF rfl) rfl fun a hF => nil (then_n (⟨_, nnxt_h h, v4_0, (wr (who + 1)), Dv_2, rfl, hlev_2, hF.weak ⟨rfl, rfl, rfl, rfl, rfl, rfl, trivial⟩, hS.weak ⟨rfl, rfl, rfl, rfl, trivial⟩⟩))))))
 replace h := ncond_f h hbv_8
 refine exit_ (then_x (then_x (blk_hit (then_n ?_))))
 replace h := next_h h
 refine seq (seq (region (step hF (Y.move hF rfl) rfl fun a hF => step hF (Y.eql hF rfl rfl) rfl fun a hF => nil (then_n (cond_b hF rfl (fun hbv_11 => ?_) (fun hbv_11 => ?_))))))
 ·replace h := ncond_t h hbv_11
  refine seq (region ?_)
  obtain ⟨KQ_8, hx_10, hk_8⟩ := nbnd_ex h
  refine O.callPN (us := []) ca_23 hF hS (w7works_ok hS.stab hG KQ_8 hx_10) rfl rfl fun rv_12 h a w hF hS => ?_
  replace h := hk_8 _ h
  refine step hF (Y.assign hF rfl) rfl fun a hF => nil (then_n (ret_ (then_r (leavePN _ (nret h) Tryd.results14 hF hS (.cons (.tmp rfl) .nil) .nil rfl))))
 replace h := ncond_f h hbv_11
 refine skip_ (then_n (seq (region (step hF (Y.fieldAddr fo_25_2 hF rfl) rfl fun a hF => step hF (Y.load1L 2 sz_23 hF rfl hS rfl rfl) rfl fun a hF => step hF (Y.fieldAddr fo_25_2 hF rfl) rfl fun a hF => step hF (Y.load1L 1 sz_23 hF rfl hS rfl rfl) rfl fun a hF => step hF (Y.lenSl u_23 hF rfl) rfl fun a hF => step hF (Y.move hF rfl) rfl fun a hF => step hF (Y.sub hF rfl rfl) rfl fun a hF => step hF (Y.move hF rfl) rfl fun a hF => step hF (Y.build (parts := [(0, (.const (.int .i64 1))), (2, (.tmp 100)), (3, (.tmp 101))]) (cs := #[.int .i64 1, .int .i64 0, .int .i64 (wr (rv_3.1 - 1)), .int .i64 rv_2, .int .i64 0, .int .i64 0]) hF rfl (by kernel_rfl)) rfl fun a hF => ?_))))
 obtain ⟨hg_2, h⟩ := ngrd h
 obtain ⟨b_2, hp⟩ := hS.ownPtr (i := 3) rfl hg_2
 refine step hF (Y.indexOwn hp u_23 sz_66 hg_2 hF rfl rfl) rfl fun a hF => O.storeOwnP (C := C_SlaveEvent) (v0 := (SlaveEvent.mk 1 0 (wr (rv_3.1 - 1)) rv_2 0 0)) (xs := ((([] : List SlaveEvent) ++ l.Events) ++ [(SlaveEvent.mk 1 0 rv_3.1 rv_2 0 0)])) (us := [.int .i64 1, .int .i64 0, .int .i64 (wr (rv_3.1 - 1)), .int .i64 rv_2, .int .i64 0, .int .i64 0]) 3 hp sz_66 hg_2 hF rfl rfl rfl rfl hS rfl hr_3 fun cs_1 a w hF hS hr_6 => ?_
 try rw [show ((([] : List SlaveEvent) ++ l.Events) ++ [(SlaveEvent.mk 1 0 rv_3.1 rv_2 0 0)]).length = (((([] : List SlaveEvent) ++ l.Events) ++ [(SlaveEvent.mk 1 0 rv_3.1 rv_2 0 0)]).set (Int.toNat (l.Events.length : Int)) (SlaveEvent.mk 1 0 (wr (rv_3.1 - 1)) rv_2 0 0)).length from List.length_set.symm] at hF
 try rw [show ((([] : List SlaveEvent) ++ l.Events) ++ [(SlaveEvent.mk 1 0 rv_3.1 rv_2 0 0)]).length = (((([] : List SlaveEvent) ++ l.Events) ++ [(SlaveEvent.mk 1 0 rv_3.1 rv_2 0 0)]).set (Int.toNat (l.Events.length : Int)) (SlaveEvent.mk 1 0 (wr (rv_3.1 - 1)) rv_2 0 0)).length from List.length_set.symm] at hS
 refine nil (then_n (seq (seq (region (step hF (Y.assign hF rfl) rfl fun a hF => nil (then_n (block (loop_cutN (body := w7SlaveHomed_b2 l rv_2 rv_3) (out := out) (fun s a w => ∃ (v4_1 : Bool) (who_1 : Int), ∃ (Dv_7 : Stab), s = (v4_1, who_1) ∧ Dv_2.le Dv_7 ∧ Frm 130 [] [(2, .pointer (some ⟨b, 0, none⟩)), (4, .bool v4_1), (8, .pointer (some ⟨b_1, 0, none⟩)), (12, .int .i64 who_1)] a ∧ St w0 D0 Dv_7 [(1, .cells b [.int .i64 l.Ring, .slice p l.Starts.length c, .slice p_1 l.Events.length c_1] 25), (2, .cells b_1 [.int .i64 l.Ring, .slice p l.Starts.length c, .slice p_5 (((([] : List SlaveEvent) ++ l.Events) ++ [(SlaveEvent.mk 1 0 rv_3.1 rv_2 0 0)]).set (Int.toNat (l.Events.length : Int)) (SlaveEvent.mk 1 0 (wr (rv_3.1 - 1)) rv_2 0 0)).length c_5] 25), (3, .own p_5 (((([] : List SlaveEvent) ++ l.Events) ++ [(SlaveEvent.mk 1 0 rv_3.1 rv_2 0 0)]).set (Int.toNat (l.Events.length : Int)) (SlaveEvent.mk 1 0 (wr (rv_3.1 - 1)) rv_2 0 0)).length c_5 cs_1 66 6), (4, .own p_4 ([(SlaveEvent.mk 1 0 rv_3.1 rv_2 0 0)]).length c_4 ([.int .i64 1, .int .i64 0, .int .i64 rv_3.1, .int .i64 rv_2, .int .i64 0, .int .i64 0]) 66 6)] w) (v4_0, 0) h ⟨v4_0, 0, Dv_2, rfl, Stab.le.refl _, hF.weak ⟨rfl, rfl, rfl, rfl, trivial⟩, hS.weak ⟨rfl, rfl, rfl, rfl, trivial⟩⟩ ?_))))))))
 rintro s a w xo_1 ⟨v4_1, who_1, Dv_7, rfl, hlev_7, hF, hS⟩ h
 unfold w7SlaveHomed_b2 at h
 try dsimp only at h
 replace hs := hs.mono hlev_7
 replace hG := hG.mono hlev_7
 replace hr_6 := hr_6.mono hlev_7
 refine seq (seq (region (step hF (Y.move hF rfl) rfl fun a hF => step hF (Y.fieldAddr fo_25_1 hF rfl) rfl fun a hF => step hF (Y.load1L 1 sz_22 hF rfl hS rfl rfl) rfl fun a hF => step hF (Y.lenSl u_22 hF rfl) rfl fun a hF => step hF (Y.lss hF rfl rfl) rfl fun a hF => nil (then_n (cond_b hF rfl (fun hbv_12 => ?_) (fun hbv_12 => ?_))))))
 ·replace h := ncond_t h hbv_12
  refine skip_ (then_n (seq (block (seq (region (step hF (Y.loadNL 2 sz_25 hF rfl hS rfl rfl rfl) rfl fun a hF => step hF (Y.move hF rfl) rfl fun a hF => ?_))))))
  have hSb := hS
  obtain ⟨Dv_8, hlev_8, hs_6, hSb⟩ := hSb.freezeC (i := 3) (xs := (((([] : List SlaveEvent) ++ l.Events) ++ [(SlaveEvent.mk 1 0 rv_3.1 rv_2 0 0)]).set (Int.toNat (l.Events.length : Int)) (SlaveEvent.mk 1 0 (wr (rv_3.1 - 1)) rv_2 0 0))) rfl hr_6
  obtain ⟨KQ_9, hx_11, hk_9⟩ := nbnd_ex h
  refine O.callM (us := [.agg #[.int .i64 l.Ring, .slice p l.Starts.length c, .slice p_5 (((([] : List SlaveEvent) ++ l.Events) ++ [(SlaveEvent.mk 1 0 rv_3.1 rv_2 0 0)]).set (Int.toNat (l.Events.length : Int)) (SlaveEvent.mk 1 0 (wr (rv_3.1 - 1)) rv_2 0 0)).length c_5], .int .i64 who_1]) ca_16 hF (slave_Can_keep hSb.stab (SlaveLine.mk l.Ring l.Starts (((([] : List SlaveEvent) ++ l.Events) ++ [(SlaveEvent.mk 1 0 rv_3.1 rv_2 0 0)]).set (Int.toNat (l.Events.length : Int)) (SlaveEvent.mk 1 0 (wr (rv_3.1 - 1)) rv_2 0 0))) who_1 (hs.mono hlev_8) hs_6 (hG.mono hlev_8) KQ_9 hx_11) rfl rfl fun v_1 Dv_9 a w hK_1 hlev_9 hF => ?_
  obtain ⟨rv_13, hq, p_8, c_8, cs_2, hS2_1, rfl, hr_7⟩ := hK_1
  replace h := hk_9 _ hq
  replace hS := hS.joinB hS2_1
  replace hr_7 := Reps.flat (D' := Dv_7) (fun _ _ _ _ h => h) hr_7
  replace hS := hS.move 7 900 rfl (by decide)
  replace hS := hS.weak (ms := [(1, .cells b [.int .i64 l.Ring, .slice p l.Starts.length c, .slice p_1 l.Events.length c_1] 25), (2, .cells b_1 [.int .i64 l.Ring, .slice p l.Starts.length c, .slice p_5 (((([] : List SlaveEvent) ++ l.Events) ++ [(SlaveEvent.mk 1 0 rv_3.1 rv_2 0 0)]).set (Int.toNat (l.Events.length : Int)) (SlaveEvent.mk 1 0 (wr (rv_3.1 - 1)) rv_2 0 0)).length c_5] 25), (3, .own p_5 (((([] : List SlaveEvent) ++ l.Events) ++ [(SlaveEvent.mk 1 0 rv_3.1 rv_2 0 0)]).set (Int.toNat (l.Events.length : Int)) (SlaveEvent.mk 1 0 (wr (rv_3.1 - 1)) rv_2 0 0)).length c_5 cs_1 66 6), (4, .own p_4 ([(SlaveEvent.mk 1 0 rv_3.1 rv_2 0 0)]).length c_4 ([.int .i64 1, .int .i64 0, .int .i64 rv_3.1, .int .i64 rv_2, .int .i64 0, .int .i64 0]) 66 6), (7, .own p_8 rv_13.1.length c_8 cs_2 3 1)]) ⟨rfl, rfl, rfl, rfl, rfl, trivial⟩
  refine step hF (Y.move hF rfl) rfl fun a hF => step hF (Y.extract hF rfl rfl) rfl fun a hF => step hF (Y.extract hF rfl rfl) rfl fun a hF => step hF (Y.assign hF rfl) rfl fun a hF => step hF (Y.assign hF rfl) rfl fun a hF => nil (then_n (seq (region (step hF (Y.move hF rfl) rfl fun a hF => step hF (Y.neq hF rfl rfl) rfl fun a hF => step hF (Y.move hF rfl) rfl fun a hF => ?_))))
  obtain ⟨t_3, ht_3, h⟩ := ndet h
  refine join (N := 130) (rs := []) (w0 := w0) (D0 := D0) 5 (us := [(2, .pointer (some ⟨b, 0, none⟩)), (4, .bool v4_1), (8, .pointer (some ⟨b_1, 0, none⟩)), (12, .int .i64 who_1), (14, .int .i64 rv_13.2), (124, .bool t_3)]) (ms := [(1, .cells b [.int .i64 l.Ring, .slice p l.Starts.length c, .slice p_1 l.Events.length c_1] 25), (2, .cells b_1 [.int .i64 l.Ring, .slice p l.Starts.length c, .slice p_5 (((([] : List SlaveEvent) ++ l.Events) ++ [(SlaveEvent.mk 1 0 rv_3.1 rv_2 0 0)]).set (Int.toNat (l.Events.length : Int)) (SlaveEvent.mk 1 0 (wr (rv_3.1 - 1)) rv_2 0 0)).length c_5] 25), (3, .own p_5 (((([] : List SlaveEvent) ++ l.Events) ++ [(SlaveEvent.mk 1 0 rv_3.1 rv_2 0 0)]).set (Int.toNat (l.Events.length : Int)) (SlaveEvent.mk 1 0 (wr (rv_3.1 - 1)) rv_2 0 0)).length c_5 cs_1 66 6), (4, .own p_4 ([(SlaveEvent.mk 1 0 rv_3.1 rv_2 0 0)]).length c_4 ([.int .i64 1, .int .i64 0, .int .i64 rv_3.1, .int .i64 rv_2, .int .i64 0, .int .i64 0]) 66 6), (7, .own p_8 rv_13.1.length c_8 cs_2 3 1)]) (D' := Dv_7) ?_ ?_
  ·rcases bcases (rv_13.2 != 0) with hbv_13 | hbv_13
   ·skip
    replace h := cond_t ht_3 hbv_13
    refine guard_off hF rfl rfl hbv_13 rfl fun a hF => guard_off hF rfl rfl hbv_13 rfl fun a hF => guard_off hF rfl rfl hbv_13 rfl fun a hF => guard_off hF rfl rfl hbv_13 rfl fun a hF => step hF (Y.pick_t hF rfl hbv_13 rfl) rfl fun a hF => ?_
    obtain rfl := some_inj h
    exact nil (then_n ⟨hF.weak ⟨rfl, rfl, rfl, rfl, rfl, rfl, trivial⟩, hS.weak ⟨rfl, rfl, rfl, rfl, rfl, trivial⟩⟩)
   replace h := cond_f ht_3 hbv_13
   refine guard_on hF rfl rfl hbv_13 (step hF (Y.move hF rfl) rfl fun a hF => guard_on hF rfl rfl hbv_13 ?_)
   have hr_8 : Reps C_int Dv_7 [0] [.int .i64 0] := Reps.cons (C := C_int) (x := 0) (c := [.int .i64 0]) (r := []) rfl (Reps.nil)
   refine O.buildSlice (E := 3) (C := C_int) (xs := [0]) (cs := [.int .i64 0]) (us := [.int .i64 0]) (parts := [(0, (.const (.int .i64 0)))]) 8 hF hS rfl (by kernel_rfl) hr_8 rfl rfl rfl fun p_9 c_9 a w hF hS => guard_on hF rfl rfl hbv_13 ?_
   have hSb := hS
   obtain ⟨Dv_10, hlev_10, hs_8, hSb⟩ := hSb.freezeC (i := 7) (xs := rv_13.1) rfl hr_7
   obtain ⟨Dv_11, hlev_11, hs_9, hSb⟩ := hSb.freezeC (i := 8) (xs := [0]) rfl (hr_8.mono hlev_10)
   obtain ⟨rv_14, hx_12, h⟩ := bind_some h
   refine O.callPB (us := [.slice p_8 rv_13.1.length rv_13.1.length, .slice p_9 ([0]).length c_9]) ca_18 hF hS (r0Alike_ok hSb.stab rv_13.1 ([0]) (⟨(hs_8.mono hlev_11).1, Nat.le_refl _⟩ : SRc _ _ _ _ _) hs_9 rv_14 hx_12) rfl rfl fun a w hF hS => guard_on hF rfl rfl hbv_13 (step hF (Y.not hF rfl) rfl fun a hF => step hF (Y.pick_f hF rfl hbv_13 rfl) rfl fun a hF => ?_)
   obtain rfl := some_inj h
   exact nil (then_n ⟨hF.weak ⟨rfl, rfl, rfl, rfl, rfl, rfl, trivial⟩, hS.weak ⟨rfl, rfl, rfl, rfl, rfl, trivial⟩⟩)
  intro a w hF hS
  refine nil (then_n (cond_b hF rfl (fun hbv_14 => ?_) (fun hbv_14 => ?_)))
  ·replace h := ncond_t h hbv_14
   refine seq (region (step hF (Y.move hF rfl) rfl fun a hF => step hF (Y.eql hF rfl rfl) rfl fun a hF => step hF (Y.move hF rfl) rfl fun a hF => ?_))
   obtain ⟨KQ_11, ht_4, hk_11⟩ := nbnd_ex h
   refine list_cut 2 (fun a w => ∃ (t_4 : Bool) (D : Stab), Dv_7.le D ∧ Frm 130 [] [(2, .pointer (some ⟨b, 0, none⟩)), (4, .bool v4_1), (8, .pointer (some ⟨b_1, 0, none⟩)), (12, .int .i64 who_1), (129, .bool t_4)] a ∧ St w0 D0 D [(1, .cells b [.int .i64 l.Ring, .slice p l.Starts.length c, .slice p_1 l.Events.length c_1] 25), (2, .cells b_1 [.int .i64 l.Ring, .slice p l.Starts.length c, .slice p_5 (((([] : List SlaveEvent) ++ l.Events) ++ [(SlaveEvent.mk 1 0 rv_3.1 rv_2 0 0)]).set (Int.toNat (l.Events.length : Int)) (SlaveEvent.mk 1 0 (wr (rv_3.1 - 1)) rv_2 0 0)).length c_5] 25), (3, .own p_5 (((([] : List SlaveEvent) ++ l.Events) ++ [(SlaveEvent.mk 1 0 rv_3.1 rv_2 0 0)]).set (Int.toNat (l.Events.length : Int)) (SlaveEvent.mk 1 0 (wr (rv_3.1 - 1)) rv_2 0 0)).length c_5 cs_1 66 6), (4, .own p_4 ([(SlaveEvent.mk 1 0 rv_3.1 rv_2 0 0)]).length c_4 ([.int .i64 1, .int .i64 0, .int .i64 rv_3.1, .int .i64 rv_2, .int .i64 0, .int .i64 0]) 66 6), (7, .own p_8 rv_13.1.length c_8 cs_2 3 1)] w ∧ KQ_11 t_4) ?_ ?_
   ·rcases bcases (rv_13.2 == 0) with hbv_15 | hbv_15
    ·skip
     replace h := ncond_t ht_4 hbv_15
     refine guard_on hF rfl rfl hbv_15 ?_
     obtain ⟨KQ_10, hx_13, hk_10⟩ := nbnd_ex h
     refine O.callPN (us := []) ca_23 hF hS (w7works_ok hS.stab hG KQ_10 hx_13) rfl rfl fun rv_16 h a w hF hS => ?_
     replace h := hk_10 _ h
     refine step hF (Y.pick_t hF rfl hbv_15 rfl) rfl fun a hF => nil (then_n ⟨_, Dv_7, Stab.le.refl _, hF.weak ⟨rfl, rfl, rfl, rfl, rfl, trivial⟩, hS.weak ⟨rfl, rfl, rfl, rfl, rfl, trivial⟩, nret h⟩)
    replace h := ncond_f ht_4 hbv_15
    refine guard_off hF rfl rfl hbv_15 rfl fun a hF => step hF (Y.pick_f hF rfl hbv_15 rfl) rfl fun a hF => nil (then_n ⟨_, Dv_7, Stab.le.refl _, hF.weak ⟨rfl, rfl, rfl, rfl, rfl, trivial⟩, hS.weak ⟨rfl, rfl, rfl, rfl, rfl, trivial⟩, nret h⟩)
   rintro a w ⟨t_4, Dv_12, hlev_12, hF, hS, h⟩
   replace h := hk_11 _ h
   refine step hF (Y.assign hF rfl) rfl fun a hF => nil (then_n (ret_ (blk_r (then_r (then_r (blk_r (then_r ?_)))))))
   replace h := next_h h
   exact leavePN _ (nret h) Tryd.results14 hF hS (.cons (.tmp rfl) .nil) .nil rfl
  replace h := ncond_f h hbv_14
  refine skip_ (blk_n (then_n (region (step hF (Y.move hF rfl) rfl fun a hF => step hF (Y.add hF rfl rfl) rfl fun a hF => step hF (Y.assign hF rfl) rfl fun a hF => nil (then_n (⟨_, nnxt_h h, v4_1, (wr (who_1 + 1)), Dv_7, rfl, hlev_7, hF.weak ⟨rfl, rfl, rfl, rfl, trivial⟩, hS.weak ⟨rfl, rfl, rfl, rfl, trivial⟩⟩))))))
 replace h := ncond_f h hbv_12
 refine exit_ (then_x (then_x (blk_hit (then_n ?_))))
 replace h := next_h h
 refine seq (region (step hF (Y.assign hF rfl) rfl fun a hF => nil (then_n (ret_ (leavePN _ (nret h) Tryd.results14 hF hS (.cons (.tmp rfl) .nil) .nil rfl)))))
end Go.Proofs.YtmbgmefmkjeahaaDoor.Rt
