/- Walks of the functions of this seat: what each Go function comes to, as a Lean function, and the proof. A law. Under no conditions. -/
import Derived.Test.YtmbgmefmkjeahaaDoorC11WSZ
set_option linter.unusedVariables false
set_option linter.unusedSimpArgs false
set_option maxRecDepth 100000
set_option maxHeartbeats 4000000
namespace Go.Proofs.YtmbgmefmkjeahaaDoor.Rt
open Go Go.RowKit
noncomputable def w7SlaveMore_b2 (rv_3 : ((List Int) × Int)) (rv_6 : ((List Int) × Int)) : (Bool × Int) → ND ((Bool × Int) ⊕ Bool)
 | (v6_1, i) =>
  cond (decide (i < (rv_6.1.length : Int)))
  ((ND.det (idx rv_6.1 i) fun e =>
  (ND.det (r0Find rv_3.1 e) fun rv_7 =>
  cond (decide (rv_7 < 0))
  (next_ (ND.ret false))
  (nnxt (v6_1, wr (i + 1))))))
  (next_ ((ND.bnd (cond (((rv_6.2 == 0) && (rv_3.2 == 0)) || ((rv_6.2 != 0) && ((rv_6.1.length : Int) == 0))) ((ND.bnd (w7works) fun rv_9 =>
  ND.ret rv_9)) (ND.ret false)) fun t =>
  ND.ret t)))
noncomputable def w7SlaveMore_k1 (l : SlaveLine) (y : SlaveEvent) (rv_2 : Int) (rv_3 : ((List Int) × Int)) (v6_0 : Bool) : ND Bool :=
  cond ((l.Events.length : Int) == 10)
  ((ND.bnd (w7works) fun rv_5 =>
  ND.ret rv_5))
  ((ND.grd (([] : List SlaveEvent).length + l.Events.length ≤ lim) (
  (ND.grd ((([] : List SlaveEvent) ++ l.Events).length + ([(SlaveEvent.mk 2 0 0 0 y.Who y.Shown)]).length ≤ lim) (
  (ND.bnd (slave_Can (SlaveLine.mk l.Ring l.Starts ((([] : List SlaveEvent) ++ l.Events) ++ [(SlaveEvent.mk 2 0 0 0 y.Who y.Shown)])) rv_2) fun rv_6 =>
  loopN (w7SlaveMore_b2 rv_3 rv_6) (v6_0, 0)))))))
noncomputable def w7SlaveMore_b3 (l : SlaveLine) (y : SlaveEvent) (rv_2 : Int) (rv_3 : ((List Int) × Int)) (rv_11 : ((List Int) × Int)) : (Bool × Int) → ND ((Bool × Int) ⊕ Bool)
 | (v6_2, i_1) =>
  cond (decide (i_1 < (rv_3.1.length : Int)))
  ((ND.det (idx rv_3.1 i_1) fun e_2 =>
  (ND.det (r0Find rv_11.1 e_2) fun rv_14 =>
  cond (decide (rv_14 < 0))
  (next_ (ND.ret false))
  (nnxt (v6_2, wr (i_1 + 1))))))
  (next_ (w7SlaveMore_k1 l y rv_2 rv_3 v6_2))
noncomputable def w7SlaveMore (l : SlaveLine) (y : SlaveEvent) (n : Arr2) : ND Bool :=
  (ND.det (w7sound l) fun rv =>
  cond (!rv)
  ((ND.bnd (w7works) fun rv_1 =>
  ND.ret rv_1))
  ((ND.det (r0Rest n.a0 (l.Starts.length : Int)) fun rv_2 =>
  (ND.bnd (slave_Can l rv_2) fun rv_3 =>
  (ND.bnd (slave_Lost l rv_2) fun rv_4 =>
  cond (rv_3.2 != rv_4.2)
  (ND.ret false)
  (cond (decide ((l.Events.length : Int) > 0))
  ((ND.grd (([] : List SlaveEvent).length + l.Events.length ≤ lim) (
  (ND.det (r0Rest n.a1 (l.Events.length : Int)) fun rv_10 =>
  (ND.det (idx l.Events rv_10) fun e_1 =>
  (ND.grd ((0 : Int) ≤ rv_10 ∧ rv_10 < ((([] : List SlaveEvent) ++ l.Events).length : Int)) (
  (ND.bnd (slave_Can (SlaveLine.mk l.Ring l.Starts ((([] : List SlaveEvent) ++ l.Events).set (Int.toNat rv_10) (SlaveEvent.mk e_1.Kind e_1.First e_1.Count (if wr (e_1.Lost + 1) < 3 then wr (e_1.Lost + 1) else 3) e_1.Who e_1.Shown))) rv_2) fun rv_11 =>
  (ND.bnd (slave_Lost (SlaveLine.mk l.Ring l.Starts ((([] : List SlaveEvent) ++ l.Events).set (Int.toNat rv_10) (SlaveEvent.mk e_1.Kind e_1.First e_1.Count (if wr (e_1.Lost + 1) < 3 then wr (e_1.Lost + 1) else 3) e_1.Who e_1.Shown))) rv_2) fun rv_12 =>
  (ND.det (cond (rv_3.2 == 0) ((cond ((rv_11.2 != 0) || (rv_12.2 != 0)) (some true) ((r0Within rv_4.1 rv_12.1).bind fun rv_13 =>
  some (!rv_13))).bind fun t_1 =>
  some t_1) (some false)) fun t_2 =>
  cond t_2
  (ND.ret false)
  (loopN (w7SlaveMore_b3 l y rv_2 rv_3 rv_11) (false, 0))))))))))))
  (w7SlaveMore_k1 l y rv_2 rv_3 false)))))))
theorem w7SlaveMore_ok {w0 : World} {D0 : Stab} (hD : D0.on w0) (l : SlaveLine) (y : SlaveEvent) (n : Arr2) {p : Option Addr} {c : Nat} {p_1 : Option Addr} {c_1 : Nat} (hs : SRc C_SlaveStart D0 l.Starts p c) (hs_1 : SRc C_SlaveEvent D0 l.Events p_1 c_1) (hG : Glob D0) (out : Bool → Prop) (h : w7SlaveMore l y n out) : Calls Tryd.prog 11 [.agg #[.int .i64 l.Ring, .slice p l.Starts.length c, .slice p_1 l.Events.length c_1], .agg #[.int .i64 y.Kind, .int .i64 y.First, .int .i64 y.Count, .int .i64 y.Lost, .int .i64 y.Who, .int .i64 y.Shown], .agg #[.int .i64 n.a0, .int .i64 n.a1]].toArray w0 (RetPN D0 w0 out fun (out : Bool) => .bool out) := by
 refine enter _ 176 Tryd.func11 rfl Tryd.ntmps11 rfl fun a hF => ?_
 replace hF : Frm 176 [] [(0, .agg #[.int .i64 l.Ring, .slice p l.Starts.length c, .slice p_1 l.Events.length c_1]), (1, .agg #[.int .i64 y.Kind, .int .i64 y.First, .int .i64 y.Count, .int .i64 y.Lost, .int .i64 y.Who, .int .i64 y.Shown]), (2, .agg #[.int .i64 n.a0, .int .i64 n.a1])] a := hF
 have hS := St.start hD
 unfold w7SlaveMore at h
 refine seq (region (O.box (cs := [.int .i64 l.Ring, .slice p l.Starts.length c, .slice p_1 l.Events.length c_1]) 1 hF rfl rfl hS rfl fun b a w hF hS => O.box (cs := [.int .i64 y.Kind, .int .i64 y.First, .int .i64 y.Count, .int .i64 y.Lost, .int .i64 y.Who, .int .i64 y.Shown]) 2 hF rfl rfl hS rfl fun b_1 a w hF hS => O.box (cs := [.int .i64 n.a0, .int .i64 n.a1]) 3 hF rfl rfl hS rfl fun b_2 a w hF hS => step hF (Y.assign hF rfl) rfl fun a hF => nil (then_n (seq (seq (region (step hF (Y.loadNL 1 sz_25 hF rfl hS rfl rfl rfl) rfl fun a hF => ?_)))))))
 obtain ⟨rv, hx, h⟩ := ndet h
 refine O.callP (us := [.agg #[.int .i64 l.Ring, .slice p l.Starts.length c, .slice p_1 l.Events.length c_1]]) ca_36 hF hS (w7sound_ok hS.stab l hs hs_1 rv hx) rfl rfl fun a w hF hS => step hF (Y.not hF rfl) rfl fun a hF => nil (then_n (cond_b hF rfl (fun hbv => ?_) (fun hbv => ?_)))
 ·replace h := ncond_t h hbv
  refine seq (region ?_)
  obtain ⟨KQ, hx_1, hk⟩ := nbnd_ex h
  refine O.callPN (us := []) ca_23 hF hS (w7works_ok hS.stab hG KQ hx_1) rfl rfl fun rv_1 h a w hF hS => ?_
  replace h := hk _ h
  refine step hF (Y.assign hF rfl) rfl fun a hF => nil (then_n (ret_ (then_r (leavePN _ (nret h) Tryd.results11 hF hS (.cons (.tmp rfl) .nil) .nil rfl))))
 replace h := ncond_f h hbv
 refine skip_ (then_n (seq (region (step hF (Y.indexArr u_64 sz_3 hF rfl rfl (by decide) (by decide)) rfl fun a hF => step hF (Y.load1L 3 sz_3 hF rfl hS rfl rfl) rfl fun a hF => step hF (Y.fieldAddr fo_25_1 hF rfl) rfl fun a hF => step hF (Y.load1L 1 sz_22 hF rfl hS rfl rfl) rfl fun a hF => step hF (Y.lenSl u_22 hF rfl) rfl fun a hF => ?_))))
 obtain ⟨rv_2, hx_2, h⟩ := ndet h
 refine O.callP (us := [.int .i64 n.a0, .int .i64 (l.Starts.length : Int)]) ca_37 hF hS (r0Rest_ok hS.stab n.a0 (l.Starts.length : Int) rv_2 hx_2) rfl rfl fun a w hF hS => step hF (Y.assign hF rfl) rfl fun a hF => nil (then_n (seq (region (step hF (Y.loadNL 1 sz_25 hF rfl hS rfl rfl rfl) rfl fun a hF => step hF (Y.move hF rfl) rfl fun a hF => ?_))))
 obtain ⟨KQ_1, hx_3, hk_1⟩ := nbnd_ex h
 refine O.callSN (us := [.agg #[.int .i64 l.Ring, .slice p l.Starts.length c, .slice p_1 l.Events.length c_1], .int .i64 rv_2]) ca_16 hF hS (slave_Can_ok hS.stab l rv_2 hs hs_1 hG KQ_1 hx_3) rfl rfl fun rv_3 h v Dv a w hR hlev hF hS => ?_
 replace h := hk_1 _ h
 replace hs := hs.mono hlev
 replace hs_1 := hs_1.mono hlev
 replace hG := hG.mono hlev
 obtain ⟨p_2, c_2, rfl, hs_2⟩ := hR
 refine step hF (Y.move hF rfl) rfl fun a hF => step hF (Y.extract hF rfl rfl) rfl fun a hF => step hF (Y.extract hF rfl rfl) rfl fun a hF => step hF (Y.assign hF rfl) rfl fun a hF => step hF (Y.assign hF rfl) rfl fun a hF => nil (then_n (seq (region (step hF (Y.loadNL 1 sz_25 hF rfl hS rfl rfl rfl) rfl fun a hF => step hF (Y.move hF rfl) rfl fun a hF => ?_))))
 obtain ⟨KQ_2, hx_4, hk_2⟩ := nbnd_ex h
 refine O.callPN (us := [.agg #[.int .i64 l.Ring, .slice p l.Starts.length c, .slice p_1 l.Events.length c_1], .int .i64 rv_2]) ca_21 hF hS (slave_Lost_ok hS.stab l rv_2 hs hs_1 hG KQ_2 hx_4) rfl rfl fun rv_4 h a w hF hS => ?_
 replace h := hk_2 _ h
 refine step hF (Y.move hF rfl) rfl fun a hF => step hF (Y.extract hF rfl rfl) rfl fun a hF => step hF (Y.extract hF rfl rfl) rfl fun a hF => O.alloc 4 zc_33 hF hS rfl fun b_3 a w hF hS => O.store (us := [.int .i64 rv_4.1.Low, .int .i64 rv_4.1.High]) 4 sz_33 hF rfl rfl rfl rfl hS rfl rfl fun a w hF hS => step hF (Y.assign hF rfl) rfl fun a hF => nil (then_n (seq (seq (region (step hF (Y.move hF rfl) rfl fun a hF => step hF (Y.move hF rfl) rfl fun a hF => step hF (Y.neq hF rfl rfl) rfl fun a hF => nil (then_n (cond_b hF rfl (fun hbv_1 => ?_) (fun hbv_1 => ?_))))))))
 ·replace h := ncond_t h hbv_1
  refine seq (region (step hF (Y.assign hF rfl) rfl fun a hF => nil (then_n (ret_ (then_r (leavePN _ (nret h) Tryd.results11 hF hS (.cons (.tmp rfl) .nil) .nil rfl))))))
 replace h := ncond_f h hbv_1
 refine skip_ (then_n (seq_cut (fun a w => ∃ (v6_0 : Bool), ∃ (Dv_1 : Stab), Dv.le Dv_1 ∧ Frm 176 [] [(3, .pointer (some ⟨b, 0, none⟩)), (4, .pointer (some ⟨b_1, 0, none⟩)), (6, .bool v6_0), (7, .int .i64 rv_2), (8, .slice p_2 rv_3.1.length c_2), (9, .int .i64 rv_3.2)] a ∧ St w0 D0 Dv_1 [(1, .cells b [.int .i64 l.Ring, .slice p l.Starts.length c, .slice p_1 l.Events.length c_1] 25), (2, .cells b_1 [.int .i64 y.Kind, .int .i64 y.First, .int .i64 y.Count, .int .i64 y.Lost, .int .i64 y.Who, .int .i64 y.Shown] 66), (3, .cells b_2 [.int .i64 n.a0, .int .i64 n.a1] 64), (4, .cells b_3 [.int .i64 rv_4.1.Low, .int .i64 rv_4.1.High] 33)] w ∧ (w7SlaveMore_k1 l y rv_2 rv_3 v6_0) out) ?_ ?_))
 ·skip
  refine seq (region (step hF (Y.fieldAddr fo_25_2 hF rfl) rfl fun a hF => step hF (Y.load1L 1 sz_23 hF rfl hS rfl rfl) rfl fun a hF => step hF (Y.lenSl u_23 hF rfl) rfl fun a hF => step hF (Y.gtr hF rfl rfl) rfl fun a hF => nil (then_n (cond_b hF rfl (fun hbv_9 => ?_) (fun hbv_9 => ?_)))))
  ·replace h := ncond_t h hbv_9
   refine seq (region (step hF (Y.loadNL 1 sz_25 hF rfl hS rfl rfl rfl) rfl fun a hF => O.alloc 8 zc_25 hF hS rfl fun b_6 a w hF hS => O.store (us := [.int .i64 l.Ring, .slice p l.Starts.length c, .slice p_1 l.Events.length c_1]) 8 sz_25 hF rfl rfl rfl rfl hS rfl rfl fun a w hF hS => nil (then_n (seq (region ?_)))))
   have hr_12 : Reps C_SlaveEvent Dv ([] : List SlaveEvent) [] := Reps.nil
   refine O.buildSlice (E := 66) (C := C_SlaveEvent) (xs := ([] : List SlaveEvent)) (cs := []) (us := []) (parts := []) 9 hF hS rfl (by kernel_rfl) hr_12 rfl rfl rfl fun p_16 c_16 a w hF hS => step hF (Y.fieldAddr fo_25_2 hF rfl) rfl fun a hF => step hF (Y.load1L 1 sz_23 hF rfl hS rfl rfl) rfl fun a hF => ?_
   obtain ⟨hg_2, h⟩ := ngrd h
   obtain ⟨ds_4, hds_4, hsrc_4⟩ := src_stab (C := C_SlaveEvent) (xs := l.Events) (hs_1).1 hS.stab
   refine O.append (C := C_SlaveEvent) (xs := ([] : List SlaveEvent)) (ys := l.Events) 9 gr_23 hF rfl rfl hS rfl hsrc_4 hr_12 hds_4 hg_2 rfl fun p_17 c_17 a w hF hS hr_13 => step hF (Y.fieldAddr fo_25_2 hF rfl) rfl fun a hF => O.store (us := [.slice p_17 (([] : List SlaveEvent) ++ l.Events).length c_17]) 8 sz_23 hF rfl rfl rfl rfl hS rfl rfl fun a w hF hS => nil (then_n (seq (region (step hF (Y.indexArr u_64 sz_3 hF rfl rfl (by decide) (by decide)) rfl fun a hF => step hF (Y.load1L 3 sz_3 hF rfl hS rfl rfl) rfl fun a hF => step hF (Y.fieldAddr fo_25_2 hF rfl) rfl fun a hF => step hF (Y.load1L 1 sz_23 hF rfl hS rfl rfl) rfl fun a hF => step hF (Y.lenSl u_23 hF rfl) rfl fun a hF => ?_))))
   obtain ⟨rv_10, hx_10, h⟩ := ndet h
   refine O.callP (us := [.int .i64 n.a1, .int .i64 (l.Events.length : Int)]) ca_37 hF hS (r0Rest_ok hS.stab n.a1 (l.Events.length : Int) rv_10 hx_10) rfl rfl fun a w hF hS => step hF (Y.assign hF rfl) rfl fun a hF => nil (then_n (seq (region (step hF (Y.fieldAddr fo_25_2 hF rfl) rfl fun a hF => step hF (Y.load1L 1 sz_23 hF rfl hS rfl rfl) rfl fun a hF => step hF (Y.move hF rfl) rfl fun a hF => ?_))))
   obtain ⟨e_1, hx_11, h⟩ := ndet h
   obtain ⟨b_7, o_1, hE_1, hY_1⟩ := Y.indexS (P := Tryd.prog) (C := C_SlaveEvent) (xs := l.Events) (T := 23) (x := (.tmp 66)) (y := (.tmp 67)) u_23 sz_66 hF rfl rfl (hs_1).1 hx_11
   obtain ⟨cc_1, hc_1, hcell_1⟩ := hE_1.open
   obtain rfl := C_SlaveEvent.open hc_1
   refine step hF (hY_1) rfl fun a hF => step hF (Y.loadNE (o := o_1) (k := 0) sz_66 hF rfl (hcell_1 _ hS.stab) rfl rfl) rfl fun a hF => O.alloc 10 zc_66 hF hS rfl fun b_8 a w hF hS => O.store (us := [.int .i64 e_1.Kind, .int .i64 e_1.First, .int .i64 e_1.Count, .int .i64 e_1.Lost, .int .i64 e_1.Who, .int .i64 e_1.Shown]) 10 sz_66 hF rfl rfl rfl rfl hS rfl rfl fun a w hF hS => nil (then_n (seq (region (step hF (Y.fieldAddr fo_66_3 hF rfl) rfl fun a hF => step hF (Y.load1L 10 sz_3 hF rfl hS rfl rfl) rfl fun a hF => step hF (Y.add hF rfl rfl) rfl fun a hF => step hF (Y.min2 hF rfl rfl) rfl fun a hF => step hF (Y.fieldAddr fo_66_3 hF rfl) rfl fun a hF => O.store (us := [.int .i64 (if wr (e_1.Lost + 1) < 3 then wr (e_1.Lost + 1) else 3)]) 10 sz_3 hF rfl rfl rfl rfl hS rfl rfl fun a w hF hS => nil (then_n (seq (region (step hF (Y.fieldAddr fo_25_2 hF rfl) rfl fun a hF => step hF (Y.load1L 8 sz_23 hF rfl hS rfl rfl) rfl fun a hF => step hF (Y.move hF rfl) rfl fun a hF => step hF (Y.loadNL 10 sz_66 hF rfl hS rfl rfl rfl) rfl fun a hF => ?_))))))))
   obtain ⟨hg_3, h⟩ := ngrd h
   obtain ⟨b_9, hp⟩ := hS.ownPtr (i := 9) rfl hg_3
   refine step hF (Y.indexOwn hp u_23 sz_66 hg_3 hF rfl rfl) rfl fun a hF => O.storeOwnP (C := C_SlaveEvent) (v0 := (SlaveEvent.mk e_1.Kind e_1.First e_1.Count (if wr (e_1.Lost + 1) < 3 then wr (e_1.Lost + 1) else 3) e_1.Who e_1.Shown)) (xs := (([] : List SlaveEvent) ++ l.Events)) (us := [.int .i64 e_1.Kind, .int .i64 e_1.First, .int .i64 e_1.Count, .int .i64 (if wr (e_1.Lost + 1) < 3 then wr (e_1.Lost + 1) else 3), .int .i64 e_1.Who, .int .i64 e_1.Shown]) 9 hp sz_66 hg_3 hF rfl rfl rfl rfl hS rfl hr_13 fun cs_1 a w hF hS hr_14 => ?_
   try rw [show (([] : List SlaveEvent) ++ l.Events).length = ((([] : List SlaveEvent) ++ l.Events).set (Int.toNat rv_10) (SlaveEvent.mk e_1.Kind e_1.First e_1.Count (if wr (e_1.Lost + 1) < 3 then wr (e_1.Lost + 1) else 3) e_1.Who e_1.Shown)).length from List.length_set.symm] at hF
   try rw [show (([] : List SlaveEvent) ++ l.Events).length = ((([] : List SlaveEvent) ++ l.Events).set (Int.toNat rv_10) (SlaveEvent.mk e_1.Kind e_1.First e_1.Count (if wr (e_1.Lost + 1) < 3 then wr (e_1.Lost + 1) else 3) e_1.Who e_1.Shown)).length from List.length_set.symm] at hS
   refine nil (then_n (seq (region (step hF (Y.loadNL 8 sz_25 hF rfl hS rfl rfl rfl) rfl fun a hF => step hF (Y.move hF rfl) rfl fun a hF => ?_))))
   obtain ⟨Dv_6, hlev_6, hs_5, hS⟩ := hS.freezeC (i := 9) (xs := ((([] : List SlaveEvent) ++ l.Events).set (Int.toNat rv_10) (SlaveEvent.mk e_1.Kind e_1.First e_1.Count (if wr (e_1.Lost + 1) < 3 then wr (e_1.Lost + 1) else 3) e_1.Who e_1.Shown))) rfl hr_14
   replace hs := hs.mono hlev_6
   replace hG := hG.mono hlev_6
   replace hs_2 := hs_2.mono hlev_6
   obtain ⟨KQ_7, hx_12, hk_7⟩ := nbnd_ex h
   refine O.callSN (us := [.agg #[.int .i64 l.Ring, .slice p l.Starts.length c, .slice p_17 ((([] : List SlaveEvent) ++ l.Events).set (Int.toNat rv_10) (SlaveEvent.mk e_1.Kind e_1.First e_1.Count (if wr (e_1.Lost + 1) < 3 then wr (e_1.Lost + 1) else 3) e_1.Who e_1.Shown)).length c_17], .int .i64 rv_2]) ca_16 hF hS (slave_Can_ok hS.stab (SlaveLine.mk l.Ring l.Starts ((([] : List SlaveEvent) ++ l.Events).set (Int.toNat rv_10) (SlaveEvent.mk e_1.Kind e_1.First e_1.Count (if wr (e_1.Lost + 1) < 3 then wr (e_1.Lost + 1) else 3) e_1.Who e_1.Shown))) rv_2 hs hs_5 hG KQ_7 hx_12) rfl rfl fun rv_11 h v_2 Dv_7 a w hR_2 hlev_7 hF hS => ?_
   replace h := hk_7 _ h
   replace hs := hs.mono hlev_7
   replace hG := hG.mono hlev_7
   replace hs_2 := hs_2.mono hlev_7
   replace hs_5 := hs_5.mono hlev_7
   obtain ⟨p_18, c_18, rfl, hs_6⟩ := hR_2
   refine step hF (Y.move hF rfl) rfl fun a hF => step hF (Y.extract hF rfl rfl) rfl fun a hF => step hF (Y.extract hF rfl rfl) rfl fun a hF => step hF (Y.assign hF rfl) rfl fun a hF => step hF (Y.assign hF rfl) rfl fun a hF => nil (then_n (seq (region (step hF (Y.loadNL 8 sz_25 hF rfl hS rfl rfl rfl) rfl fun a hF => step hF (Y.move hF rfl) rfl fun a hF => ?_))))
   obtain ⟨KQ_8, hx_13, hk_8⟩ := nbnd_ex h
   refine O.callPN (us := [.agg #[.int .i64 l.Ring, .slice p l.Starts.length c, .slice p_17 ((([] : List SlaveEvent) ++ l.Events).set (Int.toNat rv_10) (SlaveEvent.mk e_1.Kind e_1.First e_1.Count (if wr (e_1.Lost + 1) < 3 then wr (e_1.Lost + 1) else 3) e_1.Who e_1.Shown)).length c_17], .int .i64 rv_2]) ca_21 hF hS (slave_Lost_ok hS.stab (SlaveLine.mk l.Ring l.Starts ((([] : List SlaveEvent) ++ l.Events).set (Int.toNat rv_10) (SlaveEvent.mk e_1.Kind e_1.First e_1.Count (if wr (e_1.Lost + 1) < 3 then wr (e_1.Lost + 1) else 3) e_1.Who e_1.Shown))) rv_2 hs hs_5 hG KQ_8 hx_13) rfl rfl fun rv_12 h a w hF hS => ?_
   replace h := hk_8 _ h
   refine step hF (Y.move hF rfl) rfl fun a hF => step hF (Y.extract hF rfl rfl) rfl fun a hF => step hF (Y.extract hF rfl rfl) rfl fun a hF => O.alloc 11 zc_33 hF hS rfl fun b_10 a w hF hS => O.store (us := [.int .i64 rv_12.1.Low, .int .i64 rv_12.1.High]) 11 sz_33 hF rfl rfl rfl rfl hS rfl rfl fun a w hF hS => step hF (Y.assign hF rfl) rfl fun a hF => nil (then_n (seq (seq (region (step hF (Y.move hF rfl) rfl fun a hF => step hF (Y.eql hF rfl rfl) rfl fun a hF => step hF (Y.move hF rfl) rfl fun a hF => ?_)))))
   obtain ⟨t_2, ht_2, h⟩ := ndet h
   refine join (N := 176) (rs := []) (w0 := w0) (D0 := D0) 13 (us := [(3, .pointer (some ⟨b, 0, none⟩)), (4, .pointer (some ⟨b_1, 0, none⟩)), (6, .bool false), (7, .int .i64 rv_2), (8, .slice p_2 rv_3.1.length c_2), (9, .int .i64 rv_3.2), (15, .slice p_18 rv_11.1.length c_18), (107, .bool t_2)]) (ms := [(1, .cells b [.int .i64 l.Ring, .slice p l.Starts.length c, .slice p_1 l.Events.length c_1] 25), (2, .cells b_1 [.int .i64 y.Kind, .int .i64 y.First, .int .i64 y.Count, .int .i64 y.Lost, .int .i64 y.Who, .int .i64 y.Shown] 66), (3, .cells b_2 [.int .i64 n.a0, .int .i64 n.a1] 64), (4, .cells b_3 [.int .i64 rv_4.1.Low, .int .i64 rv_4.1.High] 33), (8, .cells b_6 [.int .i64 l.Ring, .slice p l.Starts.length c, .slice p_17 ((([] : List SlaveEvent) ++ l.Events).set (Int.toNat rv_10) (SlaveEvent.mk e_1.Kind e_1.First e_1.Count (if wr (e_1.Lost + 1) < 3 then wr (e_1.Lost + 1) else 3) e_1.Who e_1.Shown)).length c_17] 25), (10, .cells b_8 [.int .i64 e_1.Kind, .int .i64 e_1.First, .int .i64 e_1.Count, .int .i64 (if wr (e_1.Lost + 1) < 3 then wr (e_1.Lost + 1) else 3), .int .i64 e_1.Who, .int .i64 e_1.Shown] 66), (11, .cells b_10 [.int .i64 rv_12.1.Low, .int .i64 rv_12.1.High] 33)]) (D' := Dv_7) ?_ ?_
   ·rcases bcases (rv_3.2 == 0) with hbv_10 | hbv_10
    ·skip
     replace h := cond_t ht_2 hbv_10
     refine guard_on hF rfl rfl hbv_10 (step hF (Y.move hF rfl) rfl fun a hF => guard_on hF rfl rfl hbv_10 (step hF (Y.neq hF rfl rfl) rfl fun a hF => guard_on hF rfl rfl hbv_10 (step hF (Y.move hF rfl) rfl fun a hF => join (N := 176) (rs := []) (w0 := w0) (D0 := D0) 3 (us := [(3, .pointer (some ⟨b, 0, none⟩)), (4, .pointer (some ⟨b_1, 0, none⟩)), (6, .bool false), (7, .int .i64 rv_2), (8, .slice p_2 rv_3.1.length c_2), (9, .int .i64 rv_3.2), (10, .pointer (some ⟨b_3, 0, none⟩)), (15, .slice p_18 rv_11.1.length c_18), (17, .pointer (some ⟨b_10, 0, none⟩)), (94, .bool (rv_3.2 == 0)), (100, .bool ((rv_11.2 != 0) || (rv_12.2 != 0)))]) (ms := [(1, .cells b [.int .i64 l.Ring, .slice p l.Starts.length c, .slice p_1 l.Events.length c_1] 25), (2, .cells b_1 [.int .i64 y.Kind, .int .i64 y.First, .int .i64 y.Count, .int .i64 y.Lost, .int .i64 y.Who, .int .i64 y.Shown] 66), (3, .cells b_2 [.int .i64 n.a0, .int .i64 n.a1] 64), (4, .cells b_3 [.int .i64 rv_4.1.Low, .int .i64 rv_4.1.High] 33), (8, .cells b_6 [.int .i64 l.Ring, .slice p l.Starts.length c, .slice p_17 ((([] : List SlaveEvent) ++ l.Events).set (Int.toNat rv_10) (SlaveEvent.mk e_1.Kind e_1.First e_1.Count (if wr (e_1.Lost + 1) < 3 then wr (e_1.Lost + 1) else 3) e_1.Who e_1.Shown)).length c_17] 25), (10, .cells b_8 [.int .i64 e_1.Kind, .int .i64 e_1.First, .int .i64 e_1.Count, .int .i64 (if wr (e_1.Lost + 1) < 3 then wr (e_1.Lost + 1) else 3), .int .i64 e_1.Who, .int .i64 e_1.Shown] 66), (11, .cells b_10 [.int .i64 rv_12.1.Low, .int .i64 rv_12.1.High] 33)]) (D' := Dv_7) ?_ ?_)))
     ·rcases bcases (rv_11.2 != 0) with hbv_11 | hbv_11
      ·skip
       refine guard_off hF rfl rfl hbv_11 rfl fun a hF => guard_off hF rfl rfl hbv_11 rfl fun a hF => guard_on hF rfl rfl hbv_10 (step hF (Y.pick_t hF rfl hbv_11 rfl) rfl fun a hF => nil (then_n ⟨hF.weak ⟨rfl, rfl, rfl, rfl, rfl, rfl, rfl, rfl, rfl, rfl, (by rw [hbv_11]; rfl), trivial⟩, hS.weak ⟨rfl, rfl, rfl, rfl, rfl, rfl, rfl, trivial⟩⟩))
      refine guard_on hF rfl rfl hbv_11 (step hF (Y.move hF rfl) rfl fun a hF => guard_on hF rfl rfl hbv_11 (step hF (Y.neq hF rfl rfl) rfl fun a hF => guard_on hF rfl rfl hbv_10 (step hF (Y.pick_f hF rfl hbv_11 rfl) rfl fun a hF => nil (then_n ⟨hF.weak ⟨rfl, rfl, rfl, rfl, rfl, rfl, rfl, rfl, rfl, rfl, (by rw [hbv_11]; rfl), trivial⟩, hS.weak ⟨rfl, rfl, rfl, rfl, rfl, rfl, rfl, trivial⟩⟩))))
     intro a w hF hS
     refine guard_on hF rfl rfl hbv_10 (step hF (Y.move hF rfl) rfl fun a hF => ?_)
     obtain ⟨t_1, ht_1, h⟩ := bind_some h
     refine join (N := 176) (rs := []) (w0 := w0) (D0 := D0) 5 (us := [(3, .pointer (some ⟨b, 0, none⟩)), (4, .pointer (some ⟨b_1, 0, none⟩)), (6, .bool false), (7, .int .i64 rv_2), (8, .slice p_2 rv_3.1.length c_2), (9, .int .i64 rv_3.2), (15, .slice p_18 rv_11.1.length c_18), (94, .bool (rv_3.2 == 0)), (106, .bool t_1)]) (ms := [(1, .cells b [.int .i64 l.Ring, .slice p l.Starts.length c, .slice p_1 l.Events.length c_1] 25), (2, .cells b_1 [.int .i64 y.Kind, .int .i64 y.First, .int .i64 y.Count, .int .i64 y.Lost, .int .i64 y.Who, .int .i64 y.Shown] 66), (3, .cells b_2 [.int .i64 n.a0, .int .i64 n.a1] 64), (4, .cells b_3 [.int .i64 rv_4.1.Low, .int .i64 rv_4.1.High] 33), (8, .cells b_6 [.int .i64 l.Ring, .slice p l.Starts.length c, .slice p_17 ((([] : List SlaveEvent) ++ l.Events).set (Int.toNat rv_10) (SlaveEvent.mk e_1.Kind e_1.First e_1.Count (if wr (e_1.Lost + 1) < 3 then wr (e_1.Lost + 1) else 3) e_1.Who e_1.Shown)).length c_17] 25), (10, .cells b_8 [.int .i64 e_1.Kind, .int .i64 e_1.First, .int .i64 e_1.Count, .int .i64 (if wr (e_1.Lost + 1) < 3 then wr (e_1.Lost + 1) else 3), .int .i64 e_1.Who, .int .i64 e_1.Shown] 66), (11, .cells b_10 [.int .i64 rv_12.1.Low, .int .i64 rv_12.1.High] 33)]) (D' := Dv_7) ?_ ?_
     ·rcases bcases ((rv_11.2 != 0) || (rv_12.2 != 0)) with hbv_12 | hbv_12
      ·skip
       replace h := cond_t ht_1 hbv_12
       refine guard_off hF rfl rfl hbv_12 rfl fun a hF => guard_off hF rfl rfl hbv_12 rfl fun a hF => guard_off hF rfl rfl hbv_12 rfl fun a hF => guard_off hF rfl rfl hbv_12 rfl fun a hF => guard_on hF rfl rfl hbv_10 (step hF (Y.pick_t hF rfl hbv_12 rfl) rfl fun a hF => ?_)
       obtain rfl := some_inj h
       exact nil (then_n ⟨hF.weak ⟨rfl, rfl, rfl, rfl, rfl, rfl, rfl, rfl, rfl, trivial⟩, hS.weak ⟨rfl, rfl, rfl, rfl, rfl, rfl, rfl, trivial⟩⟩)
      replace h := cond_f ht_1 hbv_12
      refine guard_on hF rfl rfl hbv_12 (step hF (Y.loadNL 4 sz_33 hF rfl hS rfl rfl rfl) rfl fun a hF => guard_on hF rfl rfl hbv_12 (step hF (Y.loadNL 11 sz_33 hF rfl hS rfl rfl rfl) rfl fun a hF => guard_on hF rfl rfl hbv_12 ?_))
      obtain ⟨rv_13, hx_14, h⟩ := bind_some h
      refine O.callP (us := [.agg #[.int .i64 rv_4.1.Low, .int .i64 rv_4.1.High], .agg #[.int .i64 rv_12.1.Low, .int .i64 rv_12.1.High]]) ca_44 hF hS (r0Within_ok hS.stab rv_4.1 rv_12.1 rv_13 hx_14) rfl rfl fun a w hF hS => guard_on hF rfl rfl hbv_12 (step hF (Y.not hF rfl) rfl fun a hF => guard_on hF rfl rfl hbv_10 (step hF (Y.pick_f hF rfl hbv_12 rfl) rfl fun a hF => ?_))
      obtain rfl := some_inj h
      exact nil (then_n ⟨hF.weak ⟨rfl, rfl, rfl, rfl, rfl, rfl, rfl, rfl, rfl, trivial⟩, hS.weak ⟨rfl, rfl, rfl, rfl, rfl, rfl, rfl, trivial⟩⟩)
     intro a w hF hS
     refine step hF (Y.pick_t hF rfl hbv_10 rfl) rfl fun a hF => ?_
     obtain rfl := some_inj h
     exact nil (then_n ⟨hF.weak ⟨rfl, rfl, rfl, rfl, rfl, rfl, rfl, rfl, trivial⟩, hS.weak ⟨rfl, rfl, rfl, rfl, rfl, rfl, rfl, trivial⟩⟩)
    replace h := cond_f ht_2 hbv_10
    refine guard_off hF rfl rfl hbv_10 rfl fun a hF => guard_off hF rfl rfl hbv_10 rfl fun a hF => guard_off hF rfl rfl hbv_10 rfl fun a hF => guard_offu hF rfl rfl rfl fun a hF => guard_offu hF rfl rfl rfl fun a hF => guard_off hF rfl rfl hbv_10 rfl fun a hF => guard_off hF rfl rfl hbv_10 rfl fun a hF => guard_offu hF rfl rfl rfl fun a hF => guard_offu hF rfl rfl rfl fun a hF => guard_offu hF rfl rfl rfl fun a hF => guard_offu hF rfl rfl rfl fun a hF => guard_off hF rfl rfl hbv_10 rfl fun a hF => step hF (Y.pick_f hF rfl hbv_10 rfl) rfl fun a hF => ?_
    obtain rfl := some_inj h
    exact nil (then_n ⟨hF.weak ⟨rfl, rfl, rfl, rfl, rfl, rfl, rfl, rfl, trivial⟩, hS.weak ⟨rfl, rfl, rfl, rfl, rfl, rfl, rfl, trivial⟩⟩)
   intro a w hF hS
   refine nil (then_n (cond_b hF rfl (fun hbv_13 => ?_) (fun hbv_13 => ?_)))
   ·replace h := ncond_t h hbv_13
    refine seq (region (step hF (Y.assign hF rfl) rfl fun a hF => nil (then_n (ret_ (then_r (then_r (leavePN _ (nret h) Tryd.results11 hF hS (.cons (.tmp rfl) .nil) .nil rfl)))))))
   replace h := ncond_f h hbv_13
   refine skip_ (then_n (seq (region (step hF (Y.assign hF rfl) rfl fun a hF => nil (then_n (block (loop_cutN (body := w7SlaveMore_b3 l y rv_2 rv_3 rv_11) (out := out) (fun s a w => ∃ (v6_2 : Bool) (i_1 : Int), ∃ (Dv_8 : Stab), s = (v6_2, i_1) ∧ Dv_7.le Dv_8 ∧ Frm 176 [] [(3, .pointer (some ⟨b, 0, none⟩)), (4, .pointer (some ⟨b_1, 0, none⟩)), (6, .bool v6_2), (7, .int .i64 rv_2), (8, .slice p_2 rv_3.1.length c_2), (9, .int .i64 rv_3.2), (15, .slice p_18 rv_11.1.length c_18), (19, .int .i64 i_1)] a ∧ St w0 D0 Dv_8 [(1, .cells b [.int .i64 l.Ring, .slice p l.Starts.length c, .slice p_1 l.Events.length c_1] 25), (2, .cells b_1 [.int .i64 y.Kind, .int .i64 y.First, .int .i64 y.Count, .int .i64 y.Lost, .int .i64 y.Who, .int .i64 y.Shown] 66), (3, .cells b_2 [.int .i64 n.a0, .int .i64 n.a1] 64), (4, .cells b_3 [.int .i64 rv_4.1.Low, .int .i64 rv_4.1.High] 33), (8, .cells b_6 [.int .i64 l.Ring, .slice p l.Starts.length c, .slice p_17 ((([] : List SlaveEvent) ++ l.Events).set (Int.toNat rv_10) (SlaveEvent.mk e_1.Kind e_1.First e_1.Count (if wr (e_1.Lost + 1) < 3 then wr (e_1.Lost + 1) else 3) e_1.Who e_1.Shown)).length c_17] 25), (10, .cells b_8 [.int .i64 e_1.Kind, .int .i64 e_1.First, .int .i64 e_1.Count, .int .i64 (if wr (e_1.Lost + 1) < 3 then wr (e_1.Lost + 1) else 3), .int .i64 e_1.Who, .int .i64 e_1.Shown] 66), (11, .cells b_10 [.int .i64 rv_12.1.Low, .int .i64 rv_12.1.High] 33)] w) (false, 0) h ⟨false, 0, Dv_7, rfl, Stab.le.refl _, hF.weak ⟨rfl, rfl, rfl, rfl, rfl, rfl, rfl, rfl, trivial⟩, hS.weak ⟨rfl, rfl, rfl, rfl, rfl, rfl, rfl, trivial⟩⟩ ?_)))))))
   rintro s a w xo_1 ⟨v6_2, i_1, Dv_8, rfl, hlev_8, hF, hS⟩ h
   unfold w7SlaveMore_b3 at h
   try dsimp only at h
   replace hs_2 := hs_2.mono hlev_8
   replace hs_6 := hs_6.mono hlev_8
   refine seq (seq (region (step hF (Y.move hF rfl) rfl fun a hF => step hF (Y.move hF rfl) rfl fun a hF => step hF (Y.lenSl u_26 hF rfl) rfl fun a hF => step hF (Y.lss hF rfl rfl) rfl fun a hF => nil (then_n (cond_b hF rfl (fun hbv_14 => ?_) (fun hbv_14 => ?_))))))
   ·replace h := ncond_t h hbv_14
    refine skip_ (then_n (seq (block (seq (region (step hF (Y.move hF rfl) rfl fun a hF => step hF (Y.move hF rfl) rfl fun a hF => step hF (Y.move hF rfl) rfl fun a hF => ?_))))))
    obtain ⟨e_2, hx_15, h⟩ := ndet h
    obtain ⟨b_11, o_2, hE_2, hY_2⟩ := Y.indexS (P := Tryd.prog) (C := C_int) (xs := rv_3.1) (T := 26) (x := (.tmp 115)) (y := (.tmp 116)) u_26 sz_3 hF rfl rfl (hs_2).1 hx_15
    obtain ⟨cc_2, hc_2, hcell_2⟩ := hE_2.open
    obtain rfl := hc_2
    refine step hF (hY_2) rfl fun a hF => step hF (Y.load1 sz_3 hF rfl (hcell_2 _ hS.stab 0 _ rfl)) rfl fun a hF => ?_
    obtain ⟨rv_14, hx_16, h⟩ := ndet h
    refine O.callP (us := [.slice p_18 rv_11.1.length c_18, .int .i64 e_2]) ca_39 hF hS (r0Find_ok hS.stab rv_11.1 e_2 hs_6 rv_14 hx_16) rfl rfl fun a w hF hS => step hF (Y.lss hF rfl rfl) rfl fun a hF => nil (then_n (cond_b hF rfl (fun hbv_15 => ?_) (fun hbv_15 => ?_)))
    ·replace h := ncond_t h hbv_15
     refine seq (region (step hF (Y.assign hF rfl) rfl fun a hF => nil (then_n (ret_ (blk_r (then_r (then_r (blk_r (then_r ?_)))))))))
     replace h := next_h h
     exact leavePN _ (nret h) Tryd.results11 hF hS (.cons (.tmp rfl) .nil) .nil rfl
    replace h := ncond_f h hbv_15
    refine skip_ (blk_n (then_n (region (step hF (Y.move hF rfl) rfl fun a hF => step hF (Y.add hF rfl rfl) rfl fun a hF => step hF (Y.assign hF rfl) rfl fun a hF => nil (then_n (⟨_, nnxt_h h, v6_2, (wr (i_1 + 1)), Dv_8, rfl, hlev_8, hF.weak ⟨rfl, rfl, rfl, rfl, rfl, rfl, rfl, rfl, trivial⟩, hS.weak ⟨rfl, rfl, rfl, rfl, rfl, rfl, rfl, trivial⟩⟩))))))
   replace h := ncond_f h hbv_14
   refine exit_ (then_x (then_x (blk_hit (then_n ?_))))
   replace h := next_h h
   exact ⟨v6_2, Dv_8, hlev_6.trans (hlev_7.trans hlev_8), hF.weak ⟨rfl, rfl, rfl, rfl, rfl, rfl, trivial⟩, hS.weak ⟨rfl, rfl, rfl, rfl, trivial⟩, h⟩
  replace h := ncond_f h hbv_9
  refine skip_ (then_n (⟨false, Dv, Stab.le.refl _, hF.weak ⟨rfl, rfl, rfl, rfl, rfl, rfl, trivial⟩, hS.weak ⟨rfl, rfl, rfl, rfl, trivial⟩, h⟩))
 rintro a w ⟨v6_0, Dv_1, hlev_1, hF, hS, h⟩
 unfold w7SlaveMore_k1 at h
 replace hs := hs.mono hlev_1
 replace hs_1 := hs_1.mono hlev_1
 replace hG := hG.mono hlev_1
 replace hs_2 := hs_2.mono hlev_1
 refine seq (seq (region (step hF (Y.fieldAddr fo_25_2 hF rfl) rfl fun a hF => step hF (Y.load1L 1 sz_23 hF rfl hS rfl rfl) rfl fun a hF => step hF (Y.lenSl u_23 hF rfl) rfl fun a hF => step hF (Y.eql hF rfl rfl) rfl fun a hF => nil (then_n (cond_b hF rfl (fun hbv_2 => ?_) (fun hbv_2 => ?_))))))
 ·replace h := ncond_t h hbv_2
  refine seq (region ?_)
  obtain ⟨KQ_3, hx_5, hk_3⟩ := nbnd_ex h
  refine O.callPN (us := []) ca_23 hF hS (w7works_ok hS.stab hG KQ_3 hx_5) rfl rfl fun rv_5 h a w hF hS => ?_
  replace h := hk_3 _ h
  refine step hF (Y.assign hF rfl) rfl fun a hF => nil (then_n (ret_ (then_r (leavePN _ (nret h) Tryd.results11 hF hS (.cons (.tmp rfl) .nil) .nil rfl))))
 replace h := ncond_f h hbv_2
 refine skip_ (then_n (seq (region (step hF (Y.loadNL 1 sz_25 hF rfl hS rfl rfl rfl) rfl fun a hF => O.alloc 5 zc_25 hF hS rfl fun b_4 a w hF hS => O.store (us := [.int .i64 l.Ring, .slice p l.Starts.length c, .slice p_1 l.Events.length c_1]) 5 sz_25 hF rfl rfl rfl rfl hS rfl rfl fun a w hF hS => nil (then_n (seq ?_))))))
 obtain ⟨hg, h⟩ := ngrd h
 refine drawsV 10 (.flt 1 (.flt 2 (.flt 4 (.flt 5 (.flt 6 (.flt 7 (.flt 8 (.alt 0 (.alt 3 (.alt 9 .done .stop) (.alt 9 (.alt 3 .done .stop) .stop)) (.alt 9 (.alt 0 (.alt 3 .done .stop) .stop) .stop))))))))) mixed_ (by kernel_rfl) (fun w => St w0 D0 Dv_1 [(1, .cells b [.int .i64 l.Ring, .slice p l.Starts.length c, .slice p_1 l.Events.length c_1] 25), (2, .cells b_1 [.int .i64 y.Kind, .int .i64 y.First, .int .i64 y.Count, .int .i64 y.Lost, .int .i64 y.Who, .int .i64 y.Shown] 66), (3, .cells b_2 [.int .i64 n.a0, .int .i64 n.a1] 64), (4, .cells b_3 [.int .i64 rv_4.1.Low, .int .i64 rv_4.1.High] 33), (5, .cells b_4 [.int .i64 l.Ring, .slice p l.Starts.length c, .slice p_1 l.Events.length c_1] 25)] w) (fun a w => ∃ (p_4 : Option Addr) (c_4 : Nat) (p_5 : Option Addr) (c_5 : Nat) (cs : List Value), Frm 176 [] [(6, .bool v6_0), (7, .int .i64 rv_2), (8, .slice p_2 rv_3.1.length c_2), (9, .int .i64 rv_3.2), (20, .pointer (some ⟨b_4, 0, none⟩)), (130, .slice p_4 (([] : List SlaveEvent) ++ l.Events).length c_4), (136, .slice p_5 ([(SlaveEvent.mk 2 0 0 0 y.Who y.Shown)]).length c_5)] a ∧ St w0 D0 Dv_1 [(1, .cells b [.int .i64 l.Ring, .slice p l.Starts.length c, .slice p_1 l.Events.length c_1] 25), (2, .cells b_1 [.int .i64 y.Kind, .int .i64 y.First, .int .i64 y.Count, .int .i64 y.Lost, .int .i64 y.Who, .int .i64 y.Shown] 66), (3, .cells b_2 [.int .i64 n.a0, .int .i64 n.a1] 64), (4, .cells b_3 [.int .i64 rv_4.1.Low, .int .i64 rv_4.1.High] 33), (5, .cells b_4 [.int .i64 l.Ring, .slice p l.Starts.length c, .slice p_1 l.Events.length c_1] 25), (6, .own p_4 (([] : List SlaveEvent) ++ l.Events).length c_4 cs 66 6), (7, .own p_5 ([(SlaveEvent.mk 2 0 0 0 y.Who y.Shown)]).length c_5 ([.int .i64 2, .int .i64 0, .int .i64 0, .int .i64 0, .int .i64 y.Who, .int .i64 y.Shown]) 66 6)] w ∧ Reps C_SlaveEvent Dv_1 (([] : List SlaveEvent) ++ l.Events) cs ∧ Reps C_SlaveEvent Dv_1 ([(SlaveEvent.mk 2 0 0 0 y.Who y.Shown)]) ([.int .i64 2, .int .i64 0, .int .i64 0, .int .i64 0, .int .i64 y.Who, .int .i64 y.Shown])) (hS.weak (ms := [(1, .cells b [.int .i64 l.Ring, .slice p l.Starts.length c, .slice p_1 l.Events.length c_1] 25), (2, .cells b_1 [.int .i64 y.Kind, .int .i64 y.First, .int .i64 y.Count, .int .i64 y.Lost, .int .i64 y.Who, .int .i64 y.Shown] 66), (3, .cells b_2 [.int .i64 n.a0, .int .i64 n.a1] 64), (4, .cells b_3 [.int .i64 rv_4.1.Low, .int .i64 rv_4.1.High] 33), (5, .cells b_4 [.int .i64 l.Ring, .slice p l.Starts.length c, .slice p_1 l.Events.length c_1] 25)]) ⟨rfl, rfl, rfl, rfl, rfl, trivial⟩).drew (fun _ _ _ _ h => h) ?_ ?_
 ·replace hS := hS.drew
  have hle0 := hS.le
  refine stepV (i := 1) rfl hF (fun w hS => Y.fieldAddr fo_25_2 hF rfl) rfl fun a hF => stepV (i := 2) rfl hF (fun w hS => Y.load1L 1 sz_23 hF rfl hS rfl rfl) rfl fun a hF => stepV (i := 4) rfl hF (fun w hS => Y.fieldAddr fo_66_4 hF rfl) rfl fun a hF => stepV (i := 5) rfl hF (fun w hS => Y.load1L 2 sz_3 hF rfl hS rfl rfl) rfl fun a hF => stepV (i := 6) rfl hF (fun w hS => Y.fieldAddr fo_66_5 hF rfl) rfl fun a hF => stepV (i := 7) rfl hF (fun w hS => Y.load1L 2 sz_3 hF rfl hS rfl rfl) rfl fun a hF => stepV (i := 8) rfl hF (fun w hS => Y.build (parts := [(0, (.const (.int .i64 2))), (4, (.tmp 132)), (5, (.tmp 134))]) (cs := #[.int .i64 2, .int .i64 0, .int .i64 0, .int .i64 0, .int .i64 y.Who, .int .i64 y.Shown]) hF rfl (by kernel_rfl)) rfl fun a hF => oneV (i := 0) rfl ?_ ?_
  ·skip
   have hr_3 : Reps C_SlaveEvent Dv_1 ([] : List SlaveEvent) [] := Reps.nil
   refine O.buildSlice (E := 66) (C := C_SlaveEvent) (xs := ([] : List SlaveEvent)) (cs := []) (us := []) (parts := []) 6 hF hS rfl (by kernel_rfl) hr_3 rfl rfl rfl fun p_6 c_6 a w hF hS => nil (then_n ⟨hS.weak ⟨rfl, rfl, rfl, rfl, rfl, trivial⟩, ?_⟩)
   refine oneV (i := 3) rfl ?_ ?_
   ·skip
    obtain ⟨ds_1, hds_1, hsrc_1⟩ := src_stab (C := C_SlaveEvent) (xs := l.Events) (hs_1).1 hS.stab
    refine O.append (C := C_SlaveEvent) (xs := ([] : List SlaveEvent)) (ys := l.Events) 6 gr_23 hF rfl rfl hS rfl hsrc_1 hr_3 hds_1 hg rfl fun p_7 c_7 a w hF hS hr_4 => nil (then_n ⟨hS.weak ⟨rfl, rfl, rfl, rfl, rfl, trivial⟩, ?_⟩)
    refine oneV (i := 9) rfl ?_ trivial
    have hr_5 : Reps C_SlaveEvent Dv_1 [(SlaveEvent.mk 2 0 0 0 y.Who y.Shown)] [.int .i64 2, .int .i64 0, .int .i64 0, .int .i64 0, .int .i64 y.Who, .int .i64 y.Shown] := Reps.cons (C := C_SlaveEvent) (x := (SlaveEvent.mk 2 0 0 0 y.Who y.Shown)) (c := [.int .i64 2, .int .i64 0, .int .i64 0, .int .i64 0, .int .i64 y.Who, .int .i64 y.Shown]) (r := []) rfl (Reps.nil)
    refine O.buildSlice (E := 66) (C := C_SlaveEvent) (xs := [(SlaveEvent.mk 2 0 0 0 y.Who y.Shown)]) (cs := [.int .i64 2, .int .i64 0, .int .i64 0, .int .i64 0, .int .i64 y.Who, .int .i64 y.Shown]) (us := [.agg #[.int .i64 2, .int .i64 0, .int .i64 0, .int .i64 0, .int .i64 y.Who, .int .i64 y.Shown]]) (parts := [(0, (.tmp 135))]) 7 hF hS rfl (by kernel_rfl) hr_5 rfl rfl rfl fun p_8 c_8 a w hF hS => nil (then_n ⟨hS.weak ⟨rfl, rfl, rfl, rfl, rfl, trivial⟩, ?_⟩)
    exact toTailV ⟨p_7, c_7, p_8, c_8, ([] ++ ds_1), hF.weak ⟨rfl, rfl, rfl, rfl, rfl, rfl, rfl, trivial⟩, hS.weak ⟨rfl, rfl, rfl, rfl, rfl, rfl, rfl, trivial⟩, hr_4, hr_5⟩
   refine oneV (i := 9) rfl ?_ trivial
   have hr_6 : Reps C_SlaveEvent Dv_1 [(SlaveEvent.mk 2 0 0 0 y.Who y.Shown)] [.int .i64 2, .int .i64 0, .int .i64 0, .int .i64 0, .int .i64 y.Who, .int .i64 y.Shown] := Reps.cons (C := C_SlaveEvent) (x := (SlaveEvent.mk 2 0 0 0 y.Who y.Shown)) (c := [.int .i64 2, .int .i64 0, .int .i64 0, .int .i64 0, .int .i64 y.Who, .int .i64 y.Shown]) (r := []) rfl (Reps.nil)
   refine O.buildSlice (E := 66) (C := C_SlaveEvent) (xs := [(SlaveEvent.mk 2 0 0 0 y.Who y.Shown)]) (cs := [.int .i64 2, .int .i64 0, .int .i64 0, .int .i64 0, .int .i64 y.Who, .int .i64 y.Shown]) (us := [.agg #[.int .i64 2, .int .i64 0, .int .i64 0, .int .i64 0, .int .i64 y.Who, .int .i64 y.Shown]]) (parts := [(0, (.tmp 135))]) 7 hF hS rfl (by kernel_rfl) hr_6 rfl rfl rfl fun p_9 c_9 a w hF hS => nil (then_n ⟨hS.weak ⟨rfl, rfl, rfl, rfl, rfl, trivial⟩, ?_⟩)
   refine oneV (i := 3) rfl ?_ trivial
   obtain ⟨ds_2, hds_2, hsrc_2⟩ := src_stab (C := C_SlaveEvent) (xs := l.Events) (hs_1).1 hS.stab
   refine O.append (C := C_SlaveEvent) (xs := ([] : List SlaveEvent)) (ys := l.Events) 6 gr_23 hF rfl rfl hS rfl hsrc_2 hr_3 hds_2 hg rfl fun p_10 c_10 a w hF hS hr_7 => nil (then_n ⟨hS.weak ⟨rfl, rfl, rfl, rfl, rfl, trivial⟩, ?_⟩)
   exact toTailV ⟨p_10, c_10, p_9, c_9, ([] ++ ds_2), hF.weak ⟨rfl, rfl, rfl, rfl, rfl, rfl, rfl, trivial⟩, hS.weak ⟨rfl, rfl, rfl, rfl, rfl, rfl, rfl, trivial⟩, hr_7, hr_6⟩
  refine oneV (i := 9) rfl ?_ trivial
  have hr_8 : Reps C_SlaveEvent Dv_1 [(SlaveEvent.mk 2 0 0 0 y.Who y.Shown)] [.int .i64 2, .int .i64 0, .int .i64 0, .int .i64 0, .int .i64 y.Who, .int .i64 y.Shown] := Reps.cons (C := C_SlaveEvent) (x := (SlaveEvent.mk 2 0 0 0 y.Who y.Shown)) (c := [.int .i64 2, .int .i64 0, .int .i64 0, .int .i64 0, .int .i64 y.Who, .int .i64 y.Shown]) (r := []) rfl (Reps.nil)
  refine O.buildSlice (E := 66) (C := C_SlaveEvent) (xs := [(SlaveEvent.mk 2 0 0 0 y.Who y.Shown)]) (cs := [.int .i64 2, .int .i64 0, .int .i64 0, .int .i64 0, .int .i64 y.Who, .int .i64 y.Shown]) (us := [.agg #[.int .i64 2, .int .i64 0, .int .i64 0, .int .i64 0, .int .i64 y.Who, .int .i64 y.Shown]]) (parts := [(0, (.tmp 135))]) 7 hF hS rfl (by kernel_rfl) hr_8 rfl rfl rfl fun p_11 c_11 a w hF hS => nil (then_n ⟨hS.weak ⟨rfl, rfl, rfl, rfl, rfl, trivial⟩, ?_⟩)
  refine oneV (i := 0) rfl ?_ trivial
  have hr_9 : Reps C_SlaveEvent Dv_1 ([] : List SlaveEvent) [] := Reps.nil
  refine O.buildSlice (E := 66) (C := C_SlaveEvent) (xs := ([] : List SlaveEvent)) (cs := []) (us := []) (parts := []) 6 hF hS rfl (by kernel_rfl) hr_9 rfl rfl rfl fun p_12 c_12 a w hF hS => nil (then_n ⟨hS.weak ⟨rfl, rfl, rfl, rfl, rfl, trivial⟩, ?_⟩)
  refine oneV (i := 3) rfl ?_ trivial
  obtain ⟨ds_3, hds_3, hsrc_3⟩ := src_stab (C := C_SlaveEvent) (xs := l.Events) (hs_1).1 hS.stab
  refine O.append (C := C_SlaveEvent) (xs := ([] : List SlaveEvent)) (ys := l.Events) 6 gr_23 hF rfl rfl hS rfl hsrc_3 hr_9 hds_3 hg rfl fun p_13 c_13 a w hF hS hr_10 => nil (then_n ⟨hS.weak ⟨rfl, rfl, rfl, rfl, rfl, trivial⟩, ?_⟩)
  exact toTailV ⟨p_13, c_13, p_11, c_11, ([] ++ ds_3), hF.weak ⟨rfl, rfl, rfl, rfl, rfl, rfl, rfl, trivial⟩, hS.weak ⟨rfl, rfl, rfl, rfl, rfl, rfl, rfl, trivial⟩, hr_10, hr_8⟩
 rintro a w ⟨p_4, c_4, p_5, c_5, cs, hF, hS, hj, hj_1⟩
 obtain ⟨hg_1, h⟩ := ngrd h
 refine O.append (C := C_SlaveEvent) (xs := (([] : List SlaveEvent) ++ l.Events)) (ys := [(SlaveEvent.mk 2 0 0 0 y.Who y.Shown)]) 6 gr_23 hF rfl rfl hS rfl (src_own (i := 7) hS rfl) hj hj_1 hg_1 rfl fun p_14 c_14 a w hF hS hr_11 => step hF (Y.fieldAddr fo_25_2 hF rfl) rfl fun a hF => O.store (us := [.slice p_14 ((([] : List SlaveEvent) ++ l.Events) ++ [(SlaveEvent.mk 2 0 0 0 y.Who y.Shown)]).length c_14]) 5 sz_23 hF rfl rfl rfl rfl hS rfl rfl fun a w hF hS => nil (then_n (seq (region (step hF (Y.loadNL 5 sz_25 hF rfl hS rfl rfl rfl) rfl fun a hF => step hF (Y.move hF rfl) rfl fun a hF => ?_))))
 obtain ⟨Dv_2, hlev_2, hs_3, hS⟩ := hS.freezeC (i := 6) (xs := ((([] : List SlaveEvent) ++ l.Events) ++ [(SlaveEvent.mk 2 0 0 0 y.Who y.Shown)])) rfl hr_11
 replace hs := hs.mono hlev_2
 replace hG := hG.mono hlev_2
 replace hs_2 := hs_2.mono hlev_2
 obtain ⟨KQ_4, hx_6, hk_4⟩ := nbnd_ex h
 refine O.callSN (us := [.agg #[.int .i64 l.Ring, .slice p l.Starts.length c, .slice p_14 ((([] : List SlaveEvent) ++ l.Events) ++ [(SlaveEvent.mk 2 0 0 0 y.Who y.Shown)]).length c_14], .int .i64 rv_2]) ca_16 hF hS (slave_Can_ok hS.stab (SlaveLine.mk l.Ring l.Starts ((([] : List SlaveEvent) ++ l.Events) ++ [(SlaveEvent.mk 2 0 0 0 y.Who y.Shown)])) rv_2 hs hs_3 hG KQ_4 hx_6) rfl rfl fun rv_6 h v_1 Dv_3 a w hR_1 hlev_3 hF hS => ?_
 replace h := hk_4 _ h
 replace hG := hG.mono hlev_3
 replace hs_2 := hs_2.mono hlev_3
 obtain ⟨p_15, c_15, rfl, hs_4⟩ := hR_1
 refine step hF (Y.move hF rfl) rfl fun a hF => step hF (Y.extract hF rfl rfl) rfl fun a hF => step hF (Y.extract hF rfl rfl) rfl fun a hF => step hF (Y.assign hF rfl) rfl fun a hF => step hF (Y.assign hF rfl) rfl fun a hF => nil (then_n (seq (seq (region (step hF (Y.assign hF rfl) rfl fun a hF => nil (then_n (block (loop_cutN (body := w7SlaveMore_b2 rv_3 rv_6) (out := out) (fun s a w => ∃ (v6_1 : Bool) (i : Int), ∃ (Dv_4 : Stab), s = (v6_1, i) ∧ Dv_3.le Dv_4 ∧ Frm 176 [] [(6, .bool v6_1), (8, .slice p_2 rv_3.1.length c_2), (9, .int .i64 rv_3.2), (21, .slice p_15 rv_6.1.length c_15), (22, .int .i64 rv_6.2), (23, .int .i64 i)] a ∧ St w0 D0 Dv_4 [(1, .cells b [.int .i64 l.Ring, .slice p l.Starts.length c, .slice p_1 l.Events.length c_1] 25), (2, .cells b_1 [.int .i64 y.Kind, .int .i64 y.First, .int .i64 y.Count, .int .i64 y.Lost, .int .i64 y.Who, .int .i64 y.Shown] 66), (3, .cells b_2 [.int .i64 n.a0, .int .i64 n.a1] 64), (4, .cells b_3 [.int .i64 rv_4.1.Low, .int .i64 rv_4.1.High] 33), (5, .cells b_4 [.int .i64 l.Ring, .slice p l.Starts.length c, .slice p_14 ((([] : List SlaveEvent) ++ l.Events) ++ [(SlaveEvent.mk 2 0 0 0 y.Who y.Shown)]).length c_14] 25), (7, .own p_5 ([(SlaveEvent.mk 2 0 0 0 y.Who y.Shown)]).length c_5 ([.int .i64 2, .int .i64 0, .int .i64 0, .int .i64 0, .int .i64 y.Who, .int .i64 y.Shown]) 66 6)] w) (v6_0, 0) h ⟨v6_0, 0, Dv_3, rfl, Stab.le.refl _, hF.weak ⟨rfl, rfl, rfl, rfl, rfl, rfl, trivial⟩, hS.weak ⟨rfl, rfl, rfl, rfl, rfl, rfl, trivial⟩⟩ ?_))))))))
 rintro s a w xo ⟨v6_1, i, Dv_4, rfl, hlev_4, hF, hS⟩ h
 unfold w7SlaveMore_b2 at h
 try dsimp only at h
 replace hG := hG.mono hlev_4
 replace hs_2 := hs_2.mono hlev_4
 replace hs_4 := hs_4.mono hlev_4
 refine seq (seq (region (step hF (Y.move hF rfl) rfl fun a hF => step hF (Y.move hF rfl) rfl fun a hF => step hF (Y.lenSl u_26 hF rfl) rfl fun a hF => step hF (Y.lss hF rfl rfl) rfl fun a hF => nil (then_n (cond_b hF rfl (fun hbv_3 => ?_) (fun hbv_3 => ?_))))))
 ·replace h := ncond_t h hbv_3
  refine skip_ (then_n (seq (block (seq (region (step hF (Y.move hF rfl) rfl fun a hF => step hF (Y.move hF rfl) rfl fun a hF => step hF (Y.move hF rfl) rfl fun a hF => ?_))))))
  obtain ⟨e, hx_7, h⟩ := ndet h
  obtain ⟨b_5, o, hE, hY⟩ := Y.indexS (P := Tryd.prog) (C := C_int) (xs := rv_6.1) (T := 26) (x := (.tmp 152)) (y := (.tmp 153)) u_26 sz_3 hF rfl rfl (hs_4).1 hx_7
  obtain ⟨cc, hc, hcell⟩ := hE.open
  obtain rfl := hc
  refine step hF (hY) rfl fun a hF => step hF (Y.load1 sz_3 hF rfl (hcell _ hS.stab 0 _ rfl)) rfl fun a hF => ?_
  obtain ⟨rv_7, hx_8, h⟩ := ndet h
  refine O.callP (us := [.slice p_2 rv_3.1.length c_2, .int .i64 e]) ca_39 hF hS (r0Find_ok hS.stab rv_3.1 e hs_2 rv_7 hx_8) rfl rfl fun a w hF hS => step hF (Y.lss hF rfl rfl) rfl fun a hF => nil (then_n (cond_b hF rfl (fun hbv_4 => ?_) (fun hbv_4 => ?_)))
  ·replace h := ncond_t h hbv_4
   refine seq (region (step hF (Y.assign hF rfl) rfl fun a hF => nil (then_n (ret_ (blk_r (then_r (then_r (blk_r (then_r ?_)))))))))
   replace h := next_h h
   exact leavePN _ (nret h) Tryd.results11 hF hS (.cons (.tmp rfl) .nil) .nil rfl
  replace h := ncond_f h hbv_4
  refine skip_ (blk_n (then_n (region (step hF (Y.move hF rfl) rfl fun a hF => step hF (Y.add hF rfl rfl) rfl fun a hF => step hF (Y.assign hF rfl) rfl fun a hF => nil (then_n (⟨_, nnxt_h h, v6_1, (wr (i + 1)), Dv_4, rfl, hlev_4, hF.weak ⟨rfl, rfl, rfl, rfl, rfl, rfl, trivial⟩, hS.weak ⟨rfl, rfl, rfl, rfl, rfl, rfl, trivial⟩⟩))))))
 replace h := ncond_f h hbv_3
 refine exit_ (then_x (then_x (blk_hit (then_n ?_))))
 replace h := next_h h
 refine seq (region (step hF (Y.move hF rfl) rfl fun a hF => step hF (Y.eql hF rfl rfl) rfl fun a hF => step hF (Y.move hF rfl) rfl fun a hF => join (N := 176) (rs := []) (w0 := w0) (D0 := D0) 3 (us := [(6, .bool v6_1), (21, .slice p_15 rv_6.1.length c_15), (22, .int .i64 rv_6.2), (163, .bool ((rv_6.2 == 0) && (rv_3.2 == 0)))]) (ms := [(1, .cells b [.int .i64 l.Ring, .slice p l.Starts.length c, .slice p_1 l.Events.length c_1] 25), (2, .cells b_1 [.int .i64 y.Kind, .int .i64 y.First, .int .i64 y.Count, .int .i64 y.Lost, .int .i64 y.Who, .int .i64 y.Shown] 66), (3, .cells b_2 [.int .i64 n.a0, .int .i64 n.a1] 64), (4, .cells b_3 [.int .i64 rv_4.1.Low, .int .i64 rv_4.1.High] 33), (5, .cells b_4 [.int .i64 l.Ring, .slice p l.Starts.length c, .slice p_14 ((([] : List SlaveEvent) ++ l.Events) ++ [(SlaveEvent.mk 2 0 0 0 y.Who y.Shown)]).length c_14] 25), (7, .own p_5 ([(SlaveEvent.mk 2 0 0 0 y.Who y.Shown)]).length c_5 ([.int .i64 2, .int .i64 0, .int .i64 0, .int .i64 0, .int .i64 y.Who, .int .i64 y.Shown]) 66 6)]) (D' := Dv_4) ?_ ?_))
 ·rcases bcases (rv_6.2 == 0) with hbv_5 | hbv_5
  ·skip
   refine guard_on hF rfl rfl hbv_5 (step hF (Y.move hF rfl) rfl fun a hF => guard_on hF rfl rfl hbv_5 (step hF (Y.eql hF rfl rfl) rfl fun a hF => step hF (Y.pick_t hF rfl hbv_5 rfl) rfl fun a hF => nil (then_n ⟨hF.weak ⟨rfl, rfl, rfl, (by rw [hbv_5]; rfl), trivial⟩, hS.weak ⟨rfl, rfl, rfl, rfl, rfl, rfl, trivial⟩⟩)))
  refine guard_off hF rfl rfl hbv_5 rfl fun a hF => guard_off hF rfl rfl hbv_5 rfl fun a hF => step hF (Y.pick_f hF rfl hbv_5 rfl) rfl fun a hF => nil (then_n ⟨hF.weak ⟨rfl, rfl, rfl, (by rw [hbv_5]; rfl), trivial⟩, hS.weak ⟨rfl, rfl, rfl, rfl, rfl, rfl, trivial⟩⟩)
 intro a w hF hS
 refine step hF (Y.move hF rfl) rfl fun a hF => join (N := 176) (rs := []) (w0 := w0) (D0 := D0) 8 (us := [(6, .bool v6_1), (172, .bool (((rv_6.2 == 0) && (rv_3.2 == 0)) || ((rv_6.2 != 0) && ((rv_6.1.length : Int) == 0))))]) (ms := [(1, .cells b [.int .i64 l.Ring, .slice p l.Starts.length c, .slice p_1 l.Events.length c_1] 25), (2, .cells b_1 [.int .i64 y.Kind, .int .i64 y.First, .int .i64 y.Count, .int .i64 y.Lost, .int .i64 y.Who, .int .i64 y.Shown] 66), (3, .cells b_2 [.int .i64 n.a0, .int .i64 n.a1] 64), (4, .cells b_3 [.int .i64 rv_4.1.Low, .int .i64 rv_4.1.High] 33), (5, .cells b_4 [.int .i64 l.Ring, .slice p l.Starts.length c, .slice p_14 ((([] : List SlaveEvent) ++ l.Events) ++ [(SlaveEvent.mk 2 0 0 0 y.Who y.Shown)]).length c_14] 25), (7, .own p_5 ([(SlaveEvent.mk 2 0 0 0 y.Who y.Shown)]).length c_5 ([.int .i64 2, .int .i64 0, .int .i64 0, .int .i64 0, .int .i64 y.Who, .int .i64 y.Shown]) 66 6)]) (D' := Dv_4) ?_ ?_
 ·rcases bcases ((rv_6.2 == 0) && (rv_3.2 == 0)) with hbv_6 | hbv_6
  ·skip
   refine guard_off hF rfl rfl hbv_6 rfl fun a hF => guard_off hF rfl rfl hbv_6 rfl fun a hF => guard_off hF rfl rfl hbv_6 rfl fun a hF => guard_offu hF rfl rfl rfl fun a hF => guard_offu hF rfl rfl rfl fun a hF => guard_offu hF rfl rfl rfl fun a hF => guard_off hF rfl rfl hbv_6 rfl fun a hF => step hF (Y.pick_t hF rfl hbv_6 rfl) rfl fun a hF => nil (then_n ⟨hF.weak ⟨rfl, (by rw [hbv_6]; rfl), trivial⟩, hS.weak ⟨rfl, rfl, rfl, rfl, rfl, rfl, trivial⟩⟩)
  refine guard_on hF rfl rfl hbv_6 (step hF (Y.move hF rfl) rfl fun a hF => guard_on hF rfl rfl hbv_6 (step hF (Y.neq hF rfl rfl) rfl fun a hF => guard_on hF rfl rfl hbv_6 (step hF (Y.move hF rfl) rfl fun a hF => join (N := 176) (rs := []) (w0 := w0) (D0 := D0) 4 (us := [(6, .bool v6_1), (164, .bool ((rv_6.2 == 0) && (rv_3.2 == 0))), (171, .bool ((rv_6.2 != 0) && ((rv_6.1.length : Int) == 0)))]) (ms := [(1, .cells b [.int .i64 l.Ring, .slice p l.Starts.length c, .slice p_1 l.Events.length c_1] 25), (2, .cells b_1 [.int .i64 y.Kind, .int .i64 y.First, .int .i64 y.Count, .int .i64 y.Lost, .int .i64 y.Who, .int .i64 y.Shown] 66), (3, .cells b_2 [.int .i64 n.a0, .int .i64 n.a1] 64), (4, .cells b_3 [.int .i64 rv_4.1.Low, .int .i64 rv_4.1.High] 33), (5, .cells b_4 [.int .i64 l.Ring, .slice p l.Starts.length c, .slice p_14 ((([] : List SlaveEvent) ++ l.Events) ++ [(SlaveEvent.mk 2 0 0 0 y.Who y.Shown)]).length c_14] 25), (7, .own p_5 ([(SlaveEvent.mk 2 0 0 0 y.Who y.Shown)]).length c_5 ([.int .i64 2, .int .i64 0, .int .i64 0, .int .i64 0, .int .i64 y.Who, .int .i64 y.Shown]) 66 6)]) (D' := Dv_4) ?_ ?_)))
  ·rcases bcases (rv_6.2 != 0) with hbv_7 | hbv_7
   ·skip
    refine guard_on hF rfl rfl hbv_7 (step hF (Y.move hF rfl) rfl fun a hF => guard_on hF rfl rfl hbv_7 (step hF (Y.lenSl u_26 hF rfl) rfl fun a hF => guard_on hF rfl rfl hbv_7 (step hF (Y.eql hF rfl rfl) rfl fun a hF => guard_on hF rfl rfl hbv_6 (step hF (Y.pick_t hF rfl hbv_7 rfl) rfl fun a hF => nil (then_n ⟨hF.weak ⟨rfl, rfl, (by rw [hbv_7]; rfl), trivial⟩, hS.weak ⟨rfl, rfl, rfl, rfl, rfl, rfl, trivial⟩⟩)))))
   refine guard_off hF rfl rfl hbv_7 rfl fun a hF => guard_off hF rfl rfl hbv_7 rfl fun a hF => guard_off hF rfl rfl hbv_7 rfl fun a hF => guard_on hF rfl rfl hbv_6 (step hF (Y.pick_f hF rfl hbv_7 rfl) rfl fun a hF => nil (then_n ⟨hF.weak ⟨rfl, rfl, (by rw [hbv_7]; rfl), trivial⟩, hS.weak ⟨rfl, rfl, rfl, rfl, rfl, rfl, trivial⟩⟩))
  intro a w hF hS
  refine step hF (Y.pick_f hF rfl hbv_6 rfl) rfl fun a hF => nil (then_n ⟨hF.weak ⟨rfl, (by rw [hbv_6]; rfl), trivial⟩, hS.weak ⟨rfl, rfl, rfl, rfl, rfl, rfl, trivial⟩⟩)
 intro a w hF hS
 refine step hF (Y.move hF rfl) rfl fun a hF => ?_
 obtain ⟨KQ_6, ht, hk_6⟩ := nbnd_ex h
 refine list_cut 2 (fun a w => ∃ (t : Bool) (D : Stab), Dv_4.le D ∧ Frm 176 [] [(6, .bool v6_1), (175, .bool t)] a ∧ St w0 D0 D [(1, .cells b [.int .i64 l.Ring, .slice p l.Starts.length c, .slice p_1 l.Events.length c_1] 25), (2, .cells b_1 [.int .i64 y.Kind, .int .i64 y.First, .int .i64 y.Count, .int .i64 y.Lost, .int .i64 y.Who, .int .i64 y.Shown] 66), (3, .cells b_2 [.int .i64 n.a0, .int .i64 n.a1] 64), (4, .cells b_3 [.int .i64 rv_4.1.Low, .int .i64 rv_4.1.High] 33), (5, .cells b_4 [.int .i64 l.Ring, .slice p l.Starts.length c, .slice p_14 ((([] : List SlaveEvent) ++ l.Events) ++ [(SlaveEvent.mk 2 0 0 0 y.Who y.Shown)]).length c_14] 25), (7, .own p_5 ([(SlaveEvent.mk 2 0 0 0 y.Who y.Shown)]).length c_5 ([.int .i64 2, .int .i64 0, .int .i64 0, .int .i64 0, .int .i64 y.Who, .int .i64 y.Shown]) 66 6)] w ∧ KQ_6 t) ?_ ?_
 ·rcases bcases (((rv_6.2 == 0) && (rv_3.2 == 0)) || ((rv_6.2 != 0) && ((rv_6.1.length : Int) == 0))) with hbv_8 | hbv_8
  ·skip
   replace h := ncond_t ht hbv_8
   refine guard_on hF rfl rfl hbv_8 ?_
   obtain ⟨KQ_5, hx_9, hk_5⟩ := nbnd_ex h
   refine O.callPN (us := []) ca_23 hF hS (w7works_ok hS.stab hG KQ_5 hx_9) rfl rfl fun rv_9 h a w hF hS => ?_
   replace h := hk_5 _ h
   refine step hF (Y.pick_t hF rfl hbv_8 rfl) rfl fun a hF => nil (then_n ⟨_, Dv_4, Stab.le.refl _, hF.weak ⟨rfl, rfl, trivial⟩, hS.weak ⟨rfl, rfl, rfl, rfl, rfl, rfl, trivial⟩, nret h⟩)
  replace h := ncond_f ht hbv_8
  refine guard_off hF rfl rfl hbv_8 rfl fun a hF => step hF (Y.pick_f hF rfl hbv_8 rfl) rfl fun a hF => nil (then_n ⟨_, Dv_4, Stab.le.refl _, hF.weak ⟨rfl, rfl, trivial⟩, hS.weak ⟨rfl, rfl, rfl, rfl, rfl, rfl, trivial⟩, nret h⟩)
 rintro a w ⟨t, Dv_5, hlev_5, hF, hS, h⟩
 replace h := hk_6 _ h
 refine step hF (Y.assign hF rfl) rfl fun a hF => nil (then_n (ret_ (leavePN _ (nret h) Tryd.results11 hF hS (.cons (.tmp rfl) .nil) .nil rfl)))
end Go.Proofs.YtmbgmefmkjeahaaDoor.Rt
