/- Walks of the functions of this seat: what each Go function comes to, as a Lean function, and the proof. A law. Under no conditions. -/
import Derived.Test.YtmbgmefmkjeahaaDoorC8WSZ
set_option linter.unusedVariables false
set_option linter.unusedSimpArgs false
set_option maxRecDepth 100000
set_option maxHeartbeats 4000000
namespace Go.Proofs.YtmbgmefmkjeahaaDoor.Rt
open Go Go.RowKit
noncomputable def w7SlaveEach (l : SlaveLine) (n : Arr2) : ND Bool :=
  (ND.det (w7sound l) fun rv =>
  cond ((!rv) || ((l.Events.length : Int) == 10))
  ((ND.bnd (w7works) fun rv_1 =>
  ND.ret rv_1))
  ((ND.det (r0Rest n.a0 (l.Starts.length : Int)) fun rv_2 =>
  (ND.det (r0Rest n.a1 l.Ring) fun rv_3 =>
  (ND.bnd (slave_Can l rv_2) fun rv_4 =>
  (ND.bnd (slave_Lost l rv_2) fun rv_5 =>
  (ND.grd (([] : List SlaveEvent).length + l.Events.length ≤ lim) (
  (ND.det (w7look rv_2 rv_3) fun rv_6 =>
  (ND.grd ((([] : List SlaveEvent) ++ l.Events).length + ([rv_6]).length ≤ lim) (
  (ND.bnd (slave_Can (SlaveLine.mk l.Ring l.Starts ((([] : List SlaveEvent) ++ l.Events) ++ [rv_6])) rv_2) fun rv_7 =>
  (ND.bnd (slave_Lost (SlaveLine.mk l.Ring l.Starts ((([] : List SlaveEvent) ++ l.Events) ++ [rv_6])) rv_2) fun rv_8 =>
  cond ((rv_4.2 != rv_5.2) || (rv_7.2 != rv_8.2))
  (ND.ret false)
  (cond (rv_4.2 != 0)
  ((ND.det (cond (((rv_4.2 == 72) && (rv_7.2 == rv_4.2)) && ((wr ((rv_4.1.length : Int) + (rv_7.1.length : Int))) == 0)) ((r0To 0 0).bind fun rv_12 =>
  some ([rv_5.1.Low, rv_5.1.High] == [rv_12.Low, rv_12.High])) (some false)) fun t_2 =>
  (ND.bnd (cond t_2 ((ND.bnd (w7works) fun rv_14 =>
  ND.ret rv_14)) (ND.ret false)) fun t_3 =>
  ND.ret t_3)))
  ((ND.det (r0Find rv_4.1 rv_3) fun rv_15 =>
  cond (decide (rv_15 < 0))
  ((ND.bnd (cond ((rv_7.2 == 72) && ((rv_7.1.length : Int) == 0)) ((ND.bnd (w7works) fun rv_17 =>
  ND.ret rv_17)) (ND.ret false)) fun t_4 =>
  ND.ret t_4))
  ((ND.det (cond (rv_7.2 == 0) ((r0Alike rv_7.1 ([rv_3])).bind fun rv_18 =>
  some rv_18) (some false)) fun t_5 =>
  (ND.det (cond t_5 ((r0Within rv_8.1 rv_5.1).bind fun rv_19 =>
  some rv_19) (some false)) fun t_6 =>
  (ND.bnd (cond t_6 ((ND.bnd (w7works) fun rv_21 =>
  ND.ret rv_21)) (ND.ret false)) fun t_7 =>
  ND.ret t_7))))))))))))))))))))
theorem w7SlaveEach_ok {w0 : World} {D0 : Stab} (hD : D0.on w0) (l : SlaveLine) (n : Arr2) {p : Option Addr} {c : Nat} {p_1 : Option Addr} {c_1 : Nat} (hs : SRc C_SlaveStart D0 l.Starts p c) (hs_1 : SRc C_SlaveEvent D0 l.Events p_1 c_1) (hG : Glob D0) (out : Bool → Prop) (h : w7SlaveEach l n out) : Calls Tryd.prog 8 [.agg #[.int .i64 l.Ring, .slice p l.Starts.length c, .slice p_1 l.Events.length c_1], .agg #[.int .i64 n.a0, .int .i64 n.a1]].toArray w0 (RetPN D0 w0 out fun (out : Bool) => .bool out) := by
 refine enter _ 135 Tryd.func8 rfl Tryd.ntmps8 rfl fun a hF => ?_
 replace hF : Frm 135 [] [(0, .agg #[.int .i64 l.Ring, .slice p l.Starts.length c, .slice p_1 l.Events.length c_1]), (1, .agg #[.int .i64 n.a0, .int .i64 n.a1])] a := hF
 have hS := St.start hD
 unfold w7SlaveEach at h
 refine seq (region (O.box (cs := [.int .i64 l.Ring, .slice p l.Starts.length c, .slice p_1 l.Events.length c_1]) 1 hF rfl rfl hS rfl fun b a w hF hS => O.box (cs := [.int .i64 n.a0, .int .i64 n.a1]) 2 hF rfl rfl hS rfl fun b_1 a w hF hS => step hF (Y.assign hF rfl) rfl fun a hF => nil (then_n (seq (seq (region (step hF (Y.loadNL 1 sz_25 hF rfl hS rfl rfl rfl) rfl fun a hF => ?_)))))))
 obtain ⟨rv, hx, h⟩ := ndet h
 refine O.callP (us := [.agg #[.int .i64 l.Ring, .slice p l.Starts.length c, .slice p_1 l.Events.length c_1]]) ca_36 hF hS (w7sound_ok hS.stab l hs hs_1 rv hx) rfl rfl fun a w hF hS => step hF (Y.not hF rfl) rfl fun a hF => step hF (Y.move hF rfl) rfl fun a hF => join (N := 135) (rs := []) (w0 := w0) (D0 := D0) 5 (us := [(2, .pointer (some ⟨b, 0, none⟩)), (3, .pointer (some ⟨b_1, 0, none⟩)), (4, .bool false), (24, .bool ((!rv) || ((l.Events.length : Int) == 10)))]) (ms := [(1, .cells b [.int .i64 l.Ring, .slice p l.Starts.length c, .slice p_1 l.Events.length c_1] 25), (2, .cells b_1 [.int .i64 n.a0, .int .i64 n.a1] 64)]) (D' := D0) ?_ ?_
 ·rcases bcases (!rv) with hbv | hbv
  ·skip
   refine guard_off hF rfl rfl hbv rfl fun a hF => guard_off hF rfl rfl hbv rfl fun a hF => guard_off hF rfl rfl hbv rfl fun a hF => guard_off hF rfl rfl hbv rfl fun a hF => step hF (Y.pick_t hF rfl hbv rfl) rfl fun a hF => nil (then_n ⟨hF.weak ⟨rfl, rfl, rfl, (by rw [hbv]; rfl), trivial⟩, hS.weak ⟨rfl, rfl, trivial⟩⟩)
  refine guard_on hF rfl rfl hbv (step hF (Y.fieldAddr fo_25_2 hF rfl) rfl fun a hF => guard_on hF rfl rfl hbv (step hF (Y.load1L 1 sz_23 hF rfl hS rfl rfl) rfl fun a hF => guard_on hF rfl rfl hbv (step hF (Y.lenSl u_23 hF rfl) rfl fun a hF => guard_on hF rfl rfl hbv (step hF (Y.eql hF rfl rfl) rfl fun a hF => step hF (Y.pick_f hF rfl hbv rfl) rfl fun a hF => nil (then_n ⟨hF.weak ⟨rfl, rfl, rfl, (by rw [hbv]; rfl), trivial⟩, hS.weak ⟨rfl, rfl, trivial⟩⟩)))))
 intro a w hF hS
 refine nil (then_n (cond_b hF rfl (fun hbv_1 => ?_) (fun hbv_1 => ?_)))
 ·replace h := ncond_t h hbv_1
  refine seq (region ?_)
  obtain ⟨KQ, hx_1, hk⟩ := nbnd_ex h
  refine O.callPN (us := []) ca_23 hF hS (w7works_ok hS.stab hG KQ hx_1) rfl rfl fun rv_1 h a w hF hS => ?_
  replace h := hk _ h
  refine step hF (Y.assign hF rfl) rfl fun a hF => nil (then_n (ret_ (then_r (leavePN _ (nret h) Tryd.results8 hF hS (.cons (.tmp rfl) .nil) .nil rfl))))
 replace h := ncond_f h hbv_1
 refine skip_ (then_n (seq ?_))
 obtain ⟨rv_2, hx_2, h⟩ := ndet h
 refine drawsV 10 (.flt 0 (.flt 1 (.flt 2 (.flt 3 (.flt 4 (.flt 6 (.flt 7 (.flt 8 (.flt 9 (.alt 5 .done .stop)))))))))) mixed_ (by kernel_rfl) (fun w => St w0 D0 D0 [(1, .cells b [.int .i64 l.Ring, .slice p l.Starts.length c, .slice p_1 l.Events.length c_1] 25), (2, .cells b_1 [.int .i64 n.a0, .int .i64 n.a1] 64)] w) (fun a w => Frm 135 [] [(2, .pointer (some ⟨b, 0, none⟩)), (4, .bool false), (31, .int .i64 rv_2), (33, .int .i64 n.a1), (35, .int .i64 l.Ring)] a ∧ St w0 D0 D0 [(1, .cells b [.int .i64 l.Ring, .slice p l.Starts.length c, .slice p_1 l.Events.length c_1] 25), (2, .cells b_1 [.int .i64 n.a0, .int .i64 n.a1] 64)] w) (hS.weak (ms := [(1, .cells b [.int .i64 l.Ring, .slice p l.Starts.length c, .slice p_1 l.Events.length c_1] 25), (2, .cells b_1 [.int .i64 n.a0, .int .i64 n.a1] 64)]) ⟨rfl, rfl, trivial⟩).drew (fun _ _ _ _ h => h) ?_ ?_
 ·replace hS := hS.drew
  have hle0 := hS.le
  refine stepV (i := 0) rfl hF (fun w hS => Y.indexArr u_64 sz_3 hF rfl rfl (by decide) (by decide)) rfl fun a hF => stepV (i := 1) rfl hF (fun w hS => Y.load1L 2 sz_3 hF rfl hS rfl rfl) rfl fun a hF => stepV (i := 2) rfl hF (fun w hS => Y.fieldAddr fo_25_1 hF rfl) rfl fun a hF => stepV (i := 3) rfl hF (fun w hS => Y.load1L 1 sz_22 hF rfl hS rfl rfl) rfl fun a hF => stepV (i := 4) rfl hF (fun w hS => Y.lenSl u_22 hF rfl) rfl fun a hF => stepV (i := 6) rfl hF (fun w hS => Y.indexArr u_64 sz_3 hF rfl rfl (by decide) (by decide)) rfl fun a hF => stepV (i := 7) rfl hF (fun w hS => Y.load1L 2 sz_3 hF rfl hS rfl rfl) rfl fun a hF => stepV (i := 8) rfl hF (fun w hS => Y.fieldAddr fo_25_0 hF rfl) rfl fun a hF => stepV (i := 9) rfl hF (fun w hS => Y.load1L 1 sz_3 hF rfl hS rfl rfl) rfl fun a hF => oneV (i := 5) rfl ?_ trivial
  refine O.callP (us := [.int .i64 n.a0, .int .i64 (l.Starts.length : Int)]) ca_37 hF hS (r0Rest_ok hS.stab n.a0 (l.Starts.length : Int) rv_2 hx_2) rfl rfl fun a w hF hS => nil (then_n ⟨hS.weak ⟨rfl, rfl, trivial⟩, ?_⟩)
  exact toTailV ⟨hF.weak ⟨rfl, rfl, rfl, rfl, rfl, trivial⟩, hS.weak ⟨rfl, rfl, trivial⟩⟩
 rintro a w ⟨hF, hS⟩
 obtain ⟨rv_3, hx_3, h⟩ := ndet h
 refine O.callP (us := [.int .i64 n.a1, .int .i64 l.Ring]) ca_37 hF hS (r0Rest_ok hS.stab n.a1 l.Ring rv_3 hx_3) rfl rfl fun a w hF hS => step hF (Y.assign hF rfl) rfl fun a hF => step hF (Y.assign hF rfl) rfl fun a hF => nil (then_n (seq (region (step hF (Y.loadNL 1 sz_25 hF rfl hS rfl rfl rfl) rfl fun a hF => step hF (Y.move hF rfl) rfl fun a hF => ?_))))
 obtain ⟨KQ_1, hx_4, hk_1⟩ := nbnd_ex h
 refine O.callSN (us := [.agg #[.int .i64 l.Ring, .slice p l.Starts.length c, .slice p_1 l.Events.length c_1], .int .i64 rv_2]) ca_16 hF hS (slave_Can_ok hS.stab l rv_2 hs hs_1 hG KQ_1 hx_4) rfl rfl fun rv_4 h v Dv a w hR hlev hF hS => ?_
 replace h := hk_1 _ h
 replace hs := hs.mono hlev
 replace hs_1 := hs_1.mono hlev
 replace hG := hG.mono hlev
 obtain ⟨p_2, c_2, rfl, hs_2⟩ := hR
 refine step hF (Y.move hF rfl) rfl fun a hF => step hF (Y.extract hF rfl rfl) rfl fun a hF => step hF (Y.extract hF rfl rfl) rfl fun a hF => step hF (Y.assign hF rfl) rfl fun a hF => step hF (Y.assign hF rfl) rfl fun a hF => nil (then_n (seq (region (step hF (Y.loadNL 1 sz_25 hF rfl hS rfl rfl rfl) rfl fun a hF => step hF (Y.move hF rfl) rfl fun a hF => ?_))))
 obtain ⟨KQ_2, hx_5, hk_2⟩ := nbnd_ex h
 refine O.callPN (us := [.agg #[.int .i64 l.Ring, .slice p l.Starts.length c, .slice p_1 l.Events.length c_1], .int .i64 rv_2]) ca_21 hF hS (slave_Lost_ok hS.stab l rv_2 hs hs_1 hG KQ_2 hx_5) rfl rfl fun rv_5 h a w hF hS => ?_
 replace h := hk_2 _ h
 refine step hF (Y.move hF rfl) rfl fun a hF => step hF (Y.extract hF rfl rfl) rfl fun a hF => step hF (Y.extract hF rfl rfl) rfl fun a hF => O.alloc 3 zc_33 hF hS rfl fun b_2 a w hF hS => O.store (us := [.int .i64 rv_5.1.Low, .int .i64 rv_5.1.High]) 3 sz_33 hF rfl rfl rfl rfl hS rfl rfl fun a w hF hS => step hF (Y.assign hF rfl) rfl fun a hF => nil (then_n (seq (region (step hF (Y.loadNL 1 sz_25 hF rfl hS rfl rfl rfl) rfl fun a hF => O.alloc 4 zc_25 hF hS rfl fun b_3 a w hF hS => O.store (us := [.int .i64 l.Ring, .slice p l.Starts.length c, .slice p_1 l.Events.length c_1]) 4 sz_25 hF rfl rfl rfl rfl hS rfl rfl fun a w hF hS => nil (then_n (seq (region ?_)))))))
 have hr : Reps C_SlaveEvent Dv ([] : List SlaveEvent) [] := Reps.nil
 refine O.buildSlice (E := 66) (C := C_SlaveEvent) (xs := ([] : List SlaveEvent)) (cs := []) (us := []) (parts := []) 5 hF hS rfl (by kernel_rfl) hr rfl rfl rfl fun p_3 c_3 a w hF hS => step hF (Y.fieldAddr fo_25_2 hF rfl) rfl fun a hF => step hF (Y.load1L 1 sz_23 hF rfl hS rfl rfl) rfl fun a hF => ?_
 obtain ⟨hg, h⟩ := ngrd h
 obtain ⟨ds, hds, hsrc⟩ := src_stab (C := C_SlaveEvent) (xs := l.Events) (hs_1).1 hS.stab
 refine O.append (C := C_SlaveEvent) (xs := ([] : List SlaveEvent)) (ys := l.Events) 5 gr_23 hF rfl rfl hS rfl hsrc hr hds hg rfl fun p_4 c_4 a w hF hS hr_1 => step hF (Y.move hF rfl) rfl fun a hF => step hF (Y.move hF rfl) rfl fun a hF => ?_
 obtain ⟨rv_6, hx_6, h⟩ := ndet h
 refine O.callP (us := [.int .i64 rv_2, .int .i64 rv_3]) ca_42 hF hS (w7look_ok hS.stab rv_2 rv_3 rv_6 hx_6) rfl rfl fun a w hF hS => ?_
 have hr_2 : Reps C_SlaveEvent Dv [rv_6] [.int .i64 rv_6.Kind, .int .i64 rv_6.First, .int .i64 rv_6.Count, .int .i64 rv_6.Lost, .int .i64 rv_6.Who, .int .i64 rv_6.Shown] := Reps.cons (C := C_SlaveEvent) (x := rv_6) (c := [.int .i64 rv_6.Kind, .int .i64 rv_6.First, .int .i64 rv_6.Count, .int .i64 rv_6.Lost, .int .i64 rv_6.Who, .int .i64 rv_6.Shown]) (r := []) rfl (Reps.nil)
 refine O.buildSlice (E := 66) (C := C_SlaveEvent) (xs := [rv_6]) (cs := [.int .i64 rv_6.Kind, .int .i64 rv_6.First, .int .i64 rv_6.Count, .int .i64 rv_6.Lost, .int .i64 rv_6.Who, .int .i64 rv_6.Shown]) (us := [.agg #[.int .i64 rv_6.Kind, .int .i64 rv_6.First, .int .i64 rv_6.Count, .int .i64 rv_6.Lost, .int .i64 rv_6.Who, .int .i64 rv_6.Shown]]) (parts := [(0, (.tmp 56))]) 6 hF hS rfl (by kernel_rfl) hr_2 rfl rfl rfl fun p_5 c_5 a w hF hS => ?_
 obtain ⟨hg_1, h⟩ := ngrd h
 refine O.append (C := C_SlaveEvent) (xs := (([] : List SlaveEvent) ++ l.Events)) (ys := [rv_6]) 5 gr_23 hF rfl rfl hS rfl (src_own (i := 6) hS rfl) hr_1 hr_2 hg_1 rfl fun p_6 c_6 a w hF hS hr_3 => step hF (Y.fieldAddr fo_25_2 hF rfl) rfl fun a hF => O.store (us := [.slice p_6 ((([] : List SlaveEvent) ++ l.Events) ++ [rv_6]).length c_6]) 4 sz_23 hF rfl rfl rfl rfl hS rfl rfl fun a w hF hS => nil (then_n (seq (region (step hF (Y.loadNL 4 sz_25 hF rfl hS rfl rfl rfl) rfl fun a hF => step hF (Y.move hF rfl) rfl fun a hF => ?_))))
 obtain ⟨Dv_1, hlev_1, hs_3, hS⟩ := hS.freezeC (i := 5) (xs := ((([] : List SlaveEvent) ++ l.Events) ++ [rv_6])) rfl hr_3
 replace hs := hs.mono hlev_1
 replace hG := hG.mono hlev_1
 replace hs_2 := hs_2.mono hlev_1
 obtain ⟨KQ_3, hx_7, hk_3⟩ := nbnd_ex h
 refine O.callSN (us := [.agg #[.int .i64 l.Ring, .slice p l.Starts.length c, .slice p_6 ((([] : List SlaveEvent) ++ l.Events) ++ [rv_6]).length c_6], .int .i64 rv_2]) ca_16 hF hS (slave_Can_ok hS.stab (SlaveLine.mk l.Ring l.Starts ((([] : List SlaveEvent) ++ l.Events) ++ [rv_6])) rv_2 hs hs_3 hG KQ_3 hx_7) rfl rfl fun rv_7 h v_1 Dv_2 a w hR_1 hlev_2 hF hS => ?_
 replace h := hk_3 _ h
 replace hs := hs.mono hlev_2
 replace hG := hG.mono hlev_2
 replace hs_2 := hs_2.mono hlev_2
 replace hs_3 := hs_3.mono hlev_2
 obtain ⟨p_7, c_7, rfl, hs_4⟩ := hR_1
 refine step hF (Y.move hF rfl) rfl fun a hF => step hF (Y.extract hF rfl rfl) rfl fun a hF => step hF (Y.extract hF rfl rfl) rfl fun a hF => step hF (Y.assign hF rfl) rfl fun a hF => step hF (Y.assign hF rfl) rfl fun a hF => nil (then_n (seq (region (step hF (Y.loadNL 4 sz_25 hF rfl hS rfl rfl rfl) rfl fun a hF => step hF (Y.move hF rfl) rfl fun a hF => ?_))))
 obtain ⟨KQ_4, hx_8, hk_4⟩ := nbnd_ex h
 refine O.callPN (us := [.agg #[.int .i64 l.Ring, .slice p l.Starts.length c, .slice p_6 ((([] : List SlaveEvent) ++ l.Events) ++ [rv_6]).length c_6], .int .i64 rv_2]) ca_21 hF hS (slave_Lost_ok hS.stab (SlaveLine.mk l.Ring l.Starts ((([] : List SlaveEvent) ++ l.Events) ++ [rv_6])) rv_2 hs hs_3 hG KQ_4 hx_8) rfl rfl fun rv_8 h a w hF hS => ?_
 replace h := hk_4 _ h
 refine step hF (Y.move hF rfl) rfl fun a hF => step hF (Y.extract hF rfl rfl) rfl fun a hF => step hF (Y.extract hF rfl rfl) rfl fun a hF => O.alloc 7 zc_33 hF hS rfl fun b_4 a w hF hS => O.store (us := [.int .i64 rv_8.1.Low, .int .i64 rv_8.1.High]) 7 sz_33 hF rfl rfl rfl rfl hS rfl rfl fun a w hF hS => step hF (Y.assign hF rfl) rfl fun a hF => nil (then_n (seq (seq (region (step hF (Y.move hF rfl) rfl fun a hF => step hF (Y.move hF rfl) rfl fun a hF => step hF (Y.neq hF rfl rfl) rfl fun a hF => step hF (Y.move hF rfl) rfl fun a hF => join (N := 135) (rs := []) (w0 := w0) (D0 := D0) 4 (us := [(4, .bool false), (6, .int .i64 rv_3), (7, .slice p_2 rv_4.1.length c_2), (8, .int .i64 rv_4.2), (9, .pointer (some ⟨b_2, 0, none⟩)), (12, .slice p_7 rv_7.1.length c_7), (13, .int .i64 rv_7.2), (14, .pointer (some ⟨b_4, 0, none⟩)), (79, .bool ((rv_4.2 != rv_5.2) || (rv_7.2 != rv_8.2)))]) (ms := [(1, .cells b [.int .i64 l.Ring, .slice p l.Starts.length c, .slice p_1 l.Events.length c_1] 25), (2, .cells b_1 [.int .i64 n.a0, .int .i64 n.a1] 64), (3, .cells b_2 [.int .i64 rv_5.1.Low, .int .i64 rv_5.1.High] 33), (4, .cells b_3 [.int .i64 l.Ring, .slice p l.Starts.length c, .slice p_6 ((([] : List SlaveEvent) ++ l.Events) ++ [rv_6]).length c_6] 25), (6, .own p_5 ([rv_6]).length c_5 ([.int .i64 rv_6.Kind, .int .i64 rv_6.First, .int .i64 rv_6.Count, .int .i64 rv_6.Lost, .int .i64 rv_6.Who, .int .i64 rv_6.Shown]) 66 6), (7, .cells b_4 [.int .i64 rv_8.1.Low, .int .i64 rv_8.1.High] 33)]) (D' := Dv_2) ?_ ?_)))))
 ·rcases bcases (rv_4.2 != rv_5.2) with hbv_2 | hbv_2
  ·skip
   refine guard_off hF rfl rfl hbv_2 rfl fun a hF => guard_off hF rfl rfl hbv_2 rfl fun a hF => guard_off hF rfl rfl hbv_2 rfl fun a hF => step hF (Y.pick_t hF rfl hbv_2 rfl) rfl fun a hF => nil (then_n ⟨hF.weak ⟨rfl, rfl, rfl, rfl, rfl, rfl, rfl, rfl, (by rw [hbv_2]; rfl), trivial⟩, hS.weak ⟨rfl, rfl, rfl, rfl, rfl, rfl, trivial⟩⟩)
  refine guard_on hF rfl rfl hbv_2 (step hF (Y.move hF rfl) rfl fun a hF => guard_on hF rfl rfl hbv_2 (step hF (Y.move hF rfl) rfl fun a hF => guard_on hF rfl rfl hbv_2 (step hF (Y.neq hF rfl rfl) rfl fun a hF => step hF (Y.pick_f hF rfl hbv_2 rfl) rfl fun a hF => nil (then_n ⟨hF.weak ⟨rfl, rfl, rfl, rfl, rfl, rfl, rfl, rfl, (by rw [hbv_2]; rfl), trivial⟩, hS.weak ⟨rfl, rfl, rfl, rfl, rfl, rfl, trivial⟩⟩))))
 intro a w hF hS
 refine nil (then_n (cond_b hF rfl (fun hbv_3 => ?_) (fun hbv_3 => ?_)))
 ·replace h := ncond_t h hbv_3
  refine seq (region (step hF (Y.assign hF rfl) rfl fun a hF => nil (then_n (ret_ (then_r (leavePN _ (nret h) Tryd.results8 hF hS (.cons (.tmp rfl) .nil) .nil rfl))))))
 replace h := ncond_f h hbv_3
 refine skip_ (then_n (seq (seq (region (step hF (Y.move hF rfl) rfl fun a hF => step hF (Y.neq hF rfl rfl) rfl fun a hF => nil (then_n (cond_b hF rfl (fun hbv_4 => ?_) (fun hbv_4 => ?_))))))))
 ·replace h := ncond_t h hbv_4
  refine seq (drawsV 24 (.flt 0 (.flt 1 (.flt 2 (.flt 3 (.flt 4 (.flt 5 (.flt 6 (.flt 7 (.flt 8 (.flt 9 (.flt 10 (.flt 11 (.flt 12 (.flt 13 (.flt 14 (.flt 15 (.flt 16 (.alt 17 (.flt 18 (.flt 19 (.flt 20 (.alt 21 (.flt 22 (.flt 23 .done)) .stop)))) .stop)))))))))))))))))) mixed_ (by kernel_rfl) (fun w => St w0 D0 Dv_2 [(1, .cells b [.int .i64 l.Ring, .slice p l.Starts.length c, .slice p_1 l.Events.length c_1] 25), (2, .cells b_1 [.int .i64 n.a0, .int .i64 n.a1] 64), (3, .cells b_2 [.int .i64 rv_5.1.Low, .int .i64 rv_5.1.High] 33), (4, .cells b_3 [.int .i64 l.Ring, .slice p l.Starts.length c, .slice p_6 ((([] : List SlaveEvent) ++ l.Events) ++ [rv_6]).length c_6] 25), (6, .own p_5 ([rv_6]).length c_5 ([.int .i64 rv_6.Kind, .int .i64 rv_6.First, .int .i64 rv_6.Count, .int .i64 rv_6.Lost, .int .i64 rv_6.Who, .int .i64 rv_6.Shown]) 66 6), (7, .cells b_4 [.int .i64 rv_8.1.Low, .int .i64 rv_8.1.High] 33)] w) _ (hS.weak (ms := [(1, .cells b [.int .i64 l.Ring, .slice p l.Starts.length c, .slice p_1 l.Events.length c_1] 25), (2, .cells b_1 [.int .i64 n.a0, .int .i64 n.a1] 64), (3, .cells b_2 [.int .i64 rv_5.1.Low, .int .i64 rv_5.1.High] 33), (4, .cells b_3 [.int .i64 l.Ring, .slice p l.Starts.length c, .slice p_6 ((([] : List SlaveEvent) ++ l.Events) ++ [rv_6]).length c_6] 25), (6, .own p_5 ([rv_6]).length c_5 ([.int .i64 rv_6.Kind, .int .i64 rv_6.First, .int .i64 rv_6.Count, .int .i64 rv_6.Lost, .int .i64 rv_6.Who, .int .i64 rv_6.Shown]) 66 6), (7, .cells b_4 [.int .i64 rv_8.1.Low, .int .i64 rv_8.1.High] 33)]) ⟨rfl, rfl, rfl, rfl, rfl, rfl, trivial⟩).drew (fun _ _ _ _ h => h) ?_ (fun _ _ h => h))
  replace hS := hS.drew
  have hle0 := hS.le
  refine stepV (i := 0) rfl hF (fun w hS => Y.move hF rfl) rfl fun a hF => stepV (i := 1) rfl hF (fun w hS => Y.eql hF rfl rfl) rfl fun a hF => stepV (i := 2) rfl hF (fun w hS => Y.move hF rfl) rfl fun a hF => cutV (u := (.flt 7 (.flt 8 (.flt 9 (.flt 10 (.flt 11 (.flt 12 (.flt 13 (.flt 14 (.flt 15 (.flt 16 (.alt 17 (.flt 18 (.flt 19 (.flt 20 (.alt 21 (.flt 22 (.flt 23 .done)) .stop)))) .stop)))))))))))) (fun a w => ∃ (D : Stab), Dv_2.le D ∧ Frm 135 [] [(4, .bool false), (6, .int .i64 rv_3), (7, .slice p_2 rv_4.1.length c_2), (9, .pointer (some ⟨b_2, 0, none⟩)), (12, .slice p_7 rv_7.1.length c_7), (13, .int .i64 rv_7.2), (14, .pointer (some ⟨b_4, 0, none⟩)), (88, .bool ((rv_4.2 == 72) && (rv_7.2 == rv_4.2)))] a ∧ St w0 D0 D [(1, .cells b [.int .i64 l.Ring, .slice p l.Starts.length c, .slice p_1 l.Events.length c_1] 25), (2, .cells b_1 [.int .i64 n.a0, .int .i64 n.a1] 64), (3, .cells b_2 [.int .i64 rv_5.1.Low, .int .i64 rv_5.1.High] 33), (4, .cells b_3 [.int .i64 l.Ring, .slice p l.Starts.length c, .slice p_6 ((([] : List SlaveEvent) ++ l.Events) ++ [rv_6]).length c_6] 25), (6, .own p_5 ([rv_6]).length c_5 ([.int .i64 rv_6.Kind, .int .i64 rv_6.First, .int .i64 rv_6.Count, .int .i64 rv_6.Lost, .int .i64 rv_6.Who, .int .i64 rv_6.Shown]) 66 6), (7, .cells b_4 [.int .i64 rv_8.1.Low, .int .i64 rv_8.1.High] 33)] w) ?_ ?_
  ·intro hcut
   rcases bcases (rv_4.2 == 72) with hbv_9 | hbv_9
   ·skip
    refine stepV_on (i := 3) rfl hF rfl rfl hbv_9 (fun w hS => Y.move hF rfl) rfl fun a hF => stepV_on (i := 4) rfl hF rfl rfl hbv_9 (fun w hS => Y.move hF rfl) rfl fun a hF => stepV_on (i := 5) rfl hF rfl rfl hbv_9 (fun w hS => Y.eql hF rfl rfl) rfl fun a hF => stepV (i := 6) rfl hF (fun w hS => Y.pick_t hF rfl hbv_9 rfl) rfl fun a hF => hcut _ _ ⟨Dv_2, Stab.le.refl _, hF.weak ⟨rfl, rfl, rfl, rfl, rfl, rfl, rfl, (by rw [hbv_9]; rfl), trivial⟩, hS.weak ⟨rfl, rfl, rfl, rfl, rfl, rfl, trivial⟩⟩
   refine stepV_off (i := 3) rfl hF rfl rfl hbv_9 rfl fun a hF => stepV_off (i := 4) rfl hF rfl rfl hbv_9 rfl fun a hF => stepV_off (i := 5) rfl hF rfl rfl hbv_9 rfl fun a hF => stepV (i := 6) rfl hF (fun w hS => Y.pick_f hF rfl hbv_9 rfl) rfl fun a hF => hcut _ _ ⟨Dv_2, Stab.le.refl _, hF.weak ⟨rfl, rfl, rfl, rfl, rfl, rfl, rfl, (by rw [hbv_9]; rfl), trivial⟩, hS.weak ⟨rfl, rfl, rfl, rfl, rfl, rfl, trivial⟩⟩
  rintro a w ⟨Dv_4, hlev_4, hF, hS⟩
  replace hG := hG.mono hlev_4
  refine stepV (i := 7) rfl hF (fun w hS => Y.move hF rfl) rfl fun a hF => cutV (u := (.flt 15 (.flt 16 (.alt 17 (.flt 18 (.flt 19 (.flt 20 (.alt 21 (.flt 22 (.flt 23 .done)) .stop)))) .stop)))) (fun a w => ∃ (D : Stab), Dv_4.le D ∧ Frm 135 [] [(4, .bool false), (6, .int .i64 rv_3), (7, .slice p_2 rv_4.1.length c_2), (9, .pointer (some ⟨b_2, 0, none⟩)), (12, .slice p_7 rv_7.1.length c_7), (13, .int .i64 rv_7.2), (14, .pointer (some ⟨b_4, 0, none⟩)), (96, .bool (((rv_4.2 == 72) && (rv_7.2 == rv_4.2)) && ((wr ((rv_4.1.length : Int) + (rv_7.1.length : Int))) == 0)))] a ∧ St w0 D0 D [(1, .cells b [.int .i64 l.Ring, .slice p l.Starts.length c, .slice p_1 l.Events.length c_1] 25), (2, .cells b_1 [.int .i64 n.a0, .int .i64 n.a1] 64), (3, .cells b_2 [.int .i64 rv_5.1.Low, .int .i64 rv_5.1.High] 33), (4, .cells b_3 [.int .i64 l.Ring, .slice p l.Starts.length c, .slice p_6 ((([] : List SlaveEvent) ++ l.Events) ++ [rv_6]).length c_6] 25), (6, .own p_5 ([rv_6]).length c_5 ([.int .i64 rv_6.Kind, .int .i64 rv_6.First, .int .i64 rv_6.Count, .int .i64 rv_6.Lost, .int .i64 rv_6.Who, .int .i64 rv_6.Shown]) 66 6), (7, .cells b_4 [.int .i64 rv_8.1.Low, .int .i64 rv_8.1.High] 33)] w) ?_ ?_
  ·intro hcut
   rcases bcases ((rv_4.2 == 72) && (rv_7.2 == rv_4.2)) with hbv_10 | hbv_10
   ·skip
    refine stepV_on (i := 8) rfl hF rfl rfl hbv_10 (fun w hS => Y.move hF rfl) rfl fun a hF => stepV_on (i := 9) rfl hF rfl rfl hbv_10 (fun w hS => Y.lenSl u_26 hF rfl) rfl fun a hF => stepV_on (i := 10) rfl hF rfl rfl hbv_10 (fun w hS => Y.move hF rfl) rfl fun a hF => stepV_on (i := 11) rfl hF rfl rfl hbv_10 (fun w hS => Y.lenSl u_26 hF rfl) rfl fun a hF => stepV_on (i := 12) rfl hF rfl rfl hbv_10 (fun w hS => Y.add hF rfl rfl) rfl fun a hF => stepV_on (i := 13) rfl hF rfl rfl hbv_10 (fun w hS => Y.eql hF rfl rfl) rfl fun a hF => stepV (i := 14) rfl hF (fun w hS => Y.pick_t hF rfl hbv_10 rfl) rfl fun a hF => hcut _ _ ⟨Dv_4, Stab.le.refl _, hF.weak ⟨rfl, rfl, rfl, rfl, rfl, rfl, rfl, (by rw [hbv_10]; rfl), trivial⟩, hS.weak ⟨rfl, rfl, rfl, rfl, rfl, rfl, trivial⟩⟩
   refine stepV_off (i := 8) rfl hF rfl rfl hbv_10 rfl fun a hF => stepV_off (i := 9) rfl hF rfl rfl hbv_10 rfl fun a hF => stepV_off (i := 10) rfl hF rfl rfl hbv_10 rfl fun a hF => stepV_off (i := 11) rfl hF rfl rfl hbv_10 rfl fun a hF => stepV_off (i := 12) rfl hF rfl rfl hbv_10 rfl fun a hF => stepV_off (i := 13) rfl hF rfl rfl hbv_10 rfl fun a hF => stepV (i := 14) rfl hF (fun w hS => Y.pick_f hF rfl hbv_10 rfl) rfl fun a hF => hcut _ _ ⟨Dv_4, Stab.le.refl _, hF.weak ⟨rfl, rfl, rfl, rfl, rfl, rfl, rfl, (by rw [hbv_10]; rfl), trivial⟩, hS.weak ⟨rfl, rfl, rfl, rfl, rfl, rfl, trivial⟩⟩
  rintro a w ⟨Dv_5, hlev_5, hF, hS⟩
  replace hG := hG.mono hlev_5
  refine stepV (i := 15) rfl hF (fun w hS => Y.move hF rfl) rfl fun a hF => ?_
  obtain ⟨t_2, ht_2, h⟩ := ndet h
  refine cutV (u := (.flt 20 (.alt 21 (.flt 22 (.flt 23 .done)) .stop))) (fun a w => ∃ (D : Stab), Dv_5.le D ∧ Frm 135 [] [(4, .bool false), (6, .int .i64 rv_3), (7, .slice p_2 rv_4.1.length c_2), (9, .pointer (some ⟨b_2, 0, none⟩)), (12, .slice p_7 rv_7.1.length c_7), (13, .int .i64 rv_7.2), (14, .pointer (some ⟨b_4, 0, none⟩)), (101, .bool t_2)] a ∧ St w0 D0 D [(1, .cells b [.int .i64 l.Ring, .slice p l.Starts.length c, .slice p_1 l.Events.length c_1] 25), (2, .cells b_1 [.int .i64 n.a0, .int .i64 n.a1] 64), (3, .cells b_2 [.int .i64 rv_5.1.Low, .int .i64 rv_5.1.High] 33), (4, .cells b_3 [.int .i64 l.Ring, .slice p l.Starts.length c, .slice p_6 ((([] : List SlaveEvent) ++ l.Events) ++ [rv_6]).length c_6] 25), (6, .own p_5 ([rv_6]).length c_5 ([.int .i64 rv_6.Kind, .int .i64 rv_6.First, .int .i64 rv_6.Count, .int .i64 rv_6.Lost, .int .i64 rv_6.Who, .int .i64 rv_6.Shown]) 66 6), (7, .cells b_4 [.int .i64 rv_8.1.Low, .int .i64 rv_8.1.High] 33)] w) ?_ ?_
  ·intro hcut
   rcases bcases (((rv_4.2 == 72) && (rv_7.2 == rv_4.2)) && ((wr ((rv_4.1.length : Int) + (rv_7.1.length : Int))) == 0)) with hbv_11 | hbv_11
   ·skip
    replace h := cond_t ht_2 hbv_11
    refine stepV_on (i := 16) rfl hF rfl rfl hbv_11 (fun w hS => Y.loadNL 3 sz_33 hF rfl hS rfl rfl rfl) rfl fun a hF => oneV (i := 17) rfl ?_ trivial
    refine guard_on hF rfl rfl hbv_11 ?_
    obtain ⟨rv_12, hx_11, h⟩ := bind_some h
    refine O.callP (us := [.int .i64 0, .int .i64 0]) ca_43 hF hS (r0To_ok hS.stab 0 0 rv_12 hx_11) rfl rfl fun a w hF hS => nil (then_n ⟨(hS.weak (ms := [(1, .cells b [.int .i64 l.Ring, .slice p l.Starts.length c, .slice p_1 l.Events.length c_1] 25), (2, .cells b_1 [.int .i64 n.a0, .int .i64 n.a1] 64), (3, .cells b_2 [.int .i64 rv_5.1.Low, .int .i64 rv_5.1.High] 33), (4, .cells b_3 [.int .i64 l.Ring, .slice p l.Starts.length c, .slice p_6 ((([] : List SlaveEvent) ++ l.Events) ++ [rv_6]).length c_6] 25), (6, .own p_5 ([rv_6]).length c_5 ([.int .i64 rv_6.Kind, .int .i64 rv_6.First, .int .i64 rv_6.Count, .int .i64 rv_6.Lost, .int .i64 rv_6.Who, .int .i64 rv_6.Shown]) 66 6), (7, .cells b_4 [.int .i64 rv_8.1.Low, .int .i64 rv_8.1.High] 33)]) ⟨rfl, rfl, rfl, rfl, rfl, rfl, trivial⟩).weakD (hlev_4.trans hlev_5) hle0, ?_⟩)
    refine stepV_on (i := 18) rfl hF rfl rfl hbv_11 (fun w hS => Y.eqst (fun w => eqT_33.equal (by decide) (l := [rv_5.1.Low, rv_5.1.High]) (m := [rv_12.Low, rv_12.High]) rfl rfl) (fun w => run_eqGuard_agg _ _ _ _ _ _ _ eg_33) hF rfl rfl) rfl fun a hF => stepV (i := 19) rfl hF (fun w hS => Y.pick_t hF rfl hbv_11 rfl) rfl fun a hF => ?_
    obtain rfl := some_inj h
    exact hcut _ _ ⟨Dv_5, Stab.le.refl _, hF.weak ⟨rfl, rfl, rfl, rfl, rfl, rfl, rfl, rfl, trivial⟩, hS.weak ⟨rfl, rfl, rfl, rfl, rfl, rfl, trivial⟩⟩
   replace h := cond_f ht_2 hbv_11
   refine stepV_off (i := 16) rfl hF rfl rfl hbv_11 rfl fun a hF => oneV (i := 17) rfl (guard_off hF rfl rfl hbv_11 rfl fun a hF => nil (then_n ⟨(hS.weak (ms := [(1, .cells b [.int .i64 l.Ring, .slice p l.Starts.length c, .slice p_1 l.Events.length c_1] 25), (2, .cells b_1 [.int .i64 n.a0, .int .i64 n.a1] 64), (3, .cells b_2 [.int .i64 rv_5.1.Low, .int .i64 rv_5.1.High] 33), (4, .cells b_3 [.int .i64 l.Ring, .slice p l.Starts.length c, .slice p_6 ((([] : List SlaveEvent) ++ l.Events) ++ [rv_6]).length c_6] 25), (6, .own p_5 ([rv_6]).length c_5 ([.int .i64 rv_6.Kind, .int .i64 rv_6.First, .int .i64 rv_6.Count, .int .i64 rv_6.Lost, .int .i64 rv_6.Who, .int .i64 rv_6.Shown]) 66 6), (7, .cells b_4 [.int .i64 rv_8.1.Low, .int .i64 rv_8.1.High] 33)]) ⟨rfl, rfl, rfl, rfl, rfl, rfl, trivial⟩).weakD (hlev_4.trans hlev_5) hle0, ?_⟩)) trivial
   refine stepV_off (i := 18) rfl hF rfl rfl hbv_11 rfl fun a hF => stepV (i := 19) rfl hF (fun w hS => Y.pick_f hF rfl hbv_11 rfl) rfl fun a hF => ?_
   obtain rfl := some_inj h
   exact hcut _ _ ⟨Dv_5, Stab.le.refl _, hF.weak ⟨rfl, rfl, rfl, rfl, rfl, rfl, rfl, rfl, trivial⟩, hS.weak ⟨rfl, rfl, rfl, rfl, rfl, rfl, trivial⟩⟩
  rintro a w ⟨Dv_6, hlev_6, hF, hS⟩
  replace hG := hG.mono hlev_6
  refine stepV (i := 20) rfl hF (fun w hS => Y.move hF rfl) rfl fun a hF => ?_
  obtain ⟨KQ_8, ht_3, hk_8⟩ := nbnd_ex h
  refine cutV (u := (.flt 23 .done)) (fun a w => ∃ (t_3 : Bool) (D : Stab), Dv_6.le D ∧ Frm 135 [] [(4, .bool false), (6, .int .i64 rv_3), (7, .slice p_2 rv_4.1.length c_2), (9, .pointer (some ⟨b_2, 0, none⟩)), (12, .slice p_7 rv_7.1.length c_7), (13, .int .i64 rv_7.2), (14, .pointer (some ⟨b_4, 0, none⟩)), (104, .bool t_3)] a ∧ St w0 D0 D [(1, .cells b [.int .i64 l.Ring, .slice p l.Starts.length c, .slice p_1 l.Events.length c_1] 25), (2, .cells b_1 [.int .i64 n.a0, .int .i64 n.a1] 64), (3, .cells b_2 [.int .i64 rv_5.1.Low, .int .i64 rv_5.1.High] 33), (4, .cells b_3 [.int .i64 l.Ring, .slice p l.Starts.length c, .slice p_6 ((([] : List SlaveEvent) ++ l.Events) ++ [rv_6]).length c_6] 25), (6, .own p_5 ([rv_6]).length c_5 ([.int .i64 rv_6.Kind, .int .i64 rv_6.First, .int .i64 rv_6.Count, .int .i64 rv_6.Lost, .int .i64 rv_6.Who, .int .i64 rv_6.Shown]) 66 6), (7, .cells b_4 [.int .i64 rv_8.1.Low, .int .i64 rv_8.1.High] 33)] w ∧ KQ_8 t_3) ?_ ?_
  ·intro hcut
   rcases bcases t_2 with hbv_12 | hbv_12
   ·skip
    replace h := ncond_t ht_3 hbv_12
    refine oneV (i := 21) rfl ?_ trivial
    refine guard_on hF rfl rfl hbv_12 ?_
    obtain ⟨KQ_7, hx_12, hk_7⟩ := nbnd_ex h
    refine O.callPN (us := []) ca_23 hF hS (w7works_ok hS.stab hG KQ_7 hx_12) rfl rfl fun rv_14 h a w hF hS => ?_
    replace h := hk_7 _ h
    refine nil (then_n ⟨(hS.weak (ms := [(1, .cells b [.int .i64 l.Ring, .slice p l.Starts.length c, .slice p_1 l.Events.length c_1] 25), (2, .cells b_1 [.int .i64 n.a0, .int .i64 n.a1] 64), (3, .cells b_2 [.int .i64 rv_5.1.Low, .int .i64 rv_5.1.High] 33), (4, .cells b_3 [.int .i64 l.Ring, .slice p l.Starts.length c, .slice p_6 ((([] : List SlaveEvent) ++ l.Events) ++ [rv_6]).length c_6] 25), (6, .own p_5 ([rv_6]).length c_5 ([.int .i64 rv_6.Kind, .int .i64 rv_6.First, .int .i64 rv_6.Count, .int .i64 rv_6.Lost, .int .i64 rv_6.Who, .int .i64 rv_6.Shown]) 66 6), (7, .cells b_4 [.int .i64 rv_8.1.Low, .int .i64 rv_8.1.High] 33)]) ⟨rfl, rfl, rfl, rfl, rfl, rfl, trivial⟩).weakD (hlev_4.trans (hlev_5.trans hlev_6)) hle0, ?_⟩)
    refine stepV (i := 22) rfl hF (fun w hS => Y.pick_t hF rfl hbv_12 rfl) rfl fun a hF => hcut _ _ ⟨_, Dv_6, Stab.le.refl _, hF.weak ⟨rfl, rfl, rfl, rfl, rfl, rfl, rfl, rfl, trivial⟩, hS.weak ⟨rfl, rfl, rfl, rfl, rfl, rfl, trivial⟩, nret h⟩
   replace h := ncond_f ht_3 hbv_12
   refine oneV (i := 21) rfl (guard_off hF rfl rfl hbv_12 rfl fun a hF => nil (then_n ⟨(hS.weak (ms := [(1, .cells b [.int .i64 l.Ring, .slice p l.Starts.length c, .slice p_1 l.Events.length c_1] 25), (2, .cells b_1 [.int .i64 n.a0, .int .i64 n.a1] 64), (3, .cells b_2 [.int .i64 rv_5.1.Low, .int .i64 rv_5.1.High] 33), (4, .cells b_3 [.int .i64 l.Ring, .slice p l.Starts.length c, .slice p_6 ((([] : List SlaveEvent) ++ l.Events) ++ [rv_6]).length c_6] 25), (6, .own p_5 ([rv_6]).length c_5 ([.int .i64 rv_6.Kind, .int .i64 rv_6.First, .int .i64 rv_6.Count, .int .i64 rv_6.Lost, .int .i64 rv_6.Who, .int .i64 rv_6.Shown]) 66 6), (7, .cells b_4 [.int .i64 rv_8.1.Low, .int .i64 rv_8.1.High] 33)]) ⟨rfl, rfl, rfl, rfl, rfl, rfl, trivial⟩).weakD (hlev_4.trans (hlev_5.trans hlev_6)) hle0, ?_⟩)) trivial
   refine stepV (i := 22) rfl hF (fun w hS => Y.pick_f hF rfl hbv_12 rfl) rfl fun a hF => hcut _ _ ⟨_, Dv_6, Stab.le.refl _, hF.weak ⟨rfl, rfl, rfl, rfl, rfl, rfl, rfl, rfl, trivial⟩, hS.weak ⟨rfl, rfl, rfl, rfl, rfl, rfl, trivial⟩, nret h⟩
  rintro a w ⟨t_3, Dv_7, hlev_7, hF, hS, h⟩
  replace h := hk_8 _ h
  refine stepV (i := 23) rfl hF (fun w hS => Y.assign hF rfl) rfl fun a hF => toTailV (nil (then_n (ret_ (then_r (leavePN _ (nret h) Tryd.results8 hF hS (.cons (.tmp rfl) .nil) .nil rfl)))))
 replace h := ncond_f h hbv_4
 refine skip_ (then_n (seq (seq (region (step hF (Y.move hF rfl) rfl fun a hF => step hF (Y.move hF rfl) rfl fun a hF => ?_)))))
 obtain ⟨rv_15, hx_13, h⟩ := ndet h
 refine O.callP (us := [.slice p_2 rv_4.1.length c_2, .int .i64 rv_3]) ca_39 hF hS (r0Find_ok hS.stab rv_4.1 rv_3 hs_2 rv_15 hx_13) rfl rfl fun a w hF hS => step hF (Y.lss hF rfl rfl) rfl fun a hF => nil (then_n (cond_b hF rfl (fun hbv_13 => ?_) (fun hbv_13 => ?_)))
 ·replace h := ncond_t h hbv_13
  refine seq (region (step hF (Y.move hF rfl) rfl fun a hF => step hF (Y.eql hF rfl rfl) rfl fun a hF => step hF (Y.move hF rfl) rfl fun a hF => join (N := 135) (rs := []) (w0 := w0) (D0 := D0) 4 (us := [(4, .bool false), (6, .int .i64 rv_3), (9, .pointer (some ⟨b_2, 0, none⟩)), (12, .slice p_7 rv_7.1.length c_7), (13, .int .i64 rv_7.2), (14, .pointer (some ⟨b_4, 0, none⟩)), (115, .bool ((rv_7.2 == 72) && ((rv_7.1.length : Int) == 0)))]) (ms := [(1, .cells b [.int .i64 l.Ring, .slice p l.Starts.length c, .slice p_1 l.Events.length c_1] 25), (2, .cells b_1 [.int .i64 n.a0, .int .i64 n.a1] 64), (3, .cells b_2 [.int .i64 rv_5.1.Low, .int .i64 rv_5.1.High] 33), (4, .cells b_3 [.int .i64 l.Ring, .slice p l.Starts.length c, .slice p_6 ((([] : List SlaveEvent) ++ l.Events) ++ [rv_6]).length c_6] 25), (6, .own p_5 ([rv_6]).length c_5 ([.int .i64 rv_6.Kind, .int .i64 rv_6.First, .int .i64 rv_6.Count, .int .i64 rv_6.Lost, .int .i64 rv_6.Who, .int .i64 rv_6.Shown]) 66 6), (7, .cells b_4 [.int .i64 rv_8.1.Low, .int .i64 rv_8.1.High] 33)]) (D' := Dv_2) ?_ ?_))
  ·rcases bcases (rv_7.2 == 72) with hbv_14 | hbv_14
   ·skip
    refine guard_on hF rfl rfl hbv_14 (step hF (Y.move hF rfl) rfl fun a hF => guard_on hF rfl rfl hbv_14 (step hF (Y.lenSl u_26 hF rfl) rfl fun a hF => guard_on hF rfl rfl hbv_14 (step hF (Y.eql hF rfl rfl) rfl fun a hF => step hF (Y.pick_t hF rfl hbv_14 rfl) rfl fun a hF => nil (then_n ⟨hF.weak ⟨rfl, rfl, rfl, rfl, rfl, rfl, (by rw [hbv_14]; rfl), trivial⟩, hS.weak ⟨rfl, rfl, rfl, rfl, rfl, rfl, trivial⟩⟩))))
   refine guard_off hF rfl rfl hbv_14 rfl fun a hF => guard_off hF rfl rfl hbv_14 rfl fun a hF => guard_off hF rfl rfl hbv_14 rfl fun a hF => step hF (Y.pick_f hF rfl hbv_14 rfl) rfl fun a hF => nil (then_n ⟨hF.weak ⟨rfl, rfl, rfl, rfl, rfl, rfl, (by rw [hbv_14]; rfl), trivial⟩, hS.weak ⟨rfl, rfl, rfl, rfl, rfl, rfl, trivial⟩⟩)
  intro a w hF hS
  refine step hF (Y.move hF rfl) rfl fun a hF => ?_
  obtain ⟨KQ_10, ht_4, hk_10⟩ := nbnd_ex h
  refine list_cut 2 (fun a w => ∃ (t_4 : Bool) (D : Stab), Dv_2.le D ∧ Frm 135 [] [(4, .bool false), (6, .int .i64 rv_3), (9, .pointer (some ⟨b_2, 0, none⟩)), (12, .slice p_7 rv_7.1.length c_7), (13, .int .i64 rv_7.2), (14, .pointer (some ⟨b_4, 0, none⟩)), (118, .bool t_4)] a ∧ St w0 D0 D [(1, .cells b [.int .i64 l.Ring, .slice p l.Starts.length c, .slice p_1 l.Events.length c_1] 25), (2, .cells b_1 [.int .i64 n.a0, .int .i64 n.a1] 64), (3, .cells b_2 [.int .i64 rv_5.1.Low, .int .i64 rv_5.1.High] 33), (4, .cells b_3 [.int .i64 l.Ring, .slice p l.Starts.length c, .slice p_6 ((([] : List SlaveEvent) ++ l.Events) ++ [rv_6]).length c_6] 25), (6, .own p_5 ([rv_6]).length c_5 ([.int .i64 rv_6.Kind, .int .i64 rv_6.First, .int .i64 rv_6.Count, .int .i64 rv_6.Lost, .int .i64 rv_6.Who, .int .i64 rv_6.Shown]) 66 6), (7, .cells b_4 [.int .i64 rv_8.1.Low, .int .i64 rv_8.1.High] 33)] w ∧ KQ_10 t_4) ?_ ?_
  ·rcases bcases ((rv_7.2 == 72) && ((rv_7.1.length : Int) == 0)) with hbv_15 | hbv_15
   ·skip
    replace h := ncond_t ht_4 hbv_15
    refine guard_on hF rfl rfl hbv_15 ?_
    obtain ⟨KQ_9, hx_14, hk_9⟩ := nbnd_ex h
    refine O.callPN (us := []) ca_23 hF hS (w7works_ok hS.stab hG KQ_9 hx_14) rfl rfl fun rv_17 h a w hF hS => ?_
    replace h := hk_9 _ h
    refine step hF (Y.pick_t hF rfl hbv_15 rfl) rfl fun a hF => nil (then_n ⟨_, Dv_2, Stab.le.refl _, hF.weak ⟨rfl, rfl, rfl, rfl, rfl, rfl, rfl, trivial⟩, hS.weak ⟨rfl, rfl, rfl, rfl, rfl, rfl, trivial⟩, nret h⟩)
   replace h := ncond_f ht_4 hbv_15
   refine guard_off hF rfl rfl hbv_15 rfl fun a hF => step hF (Y.pick_f hF rfl hbv_15 rfl) rfl fun a hF => nil (then_n ⟨_, Dv_2, Stab.le.refl _, hF.weak ⟨rfl, rfl, rfl, rfl, rfl, rfl, rfl, trivial⟩, hS.weak ⟨rfl, rfl, rfl, rfl, rfl, rfl, trivial⟩, nret h⟩)
  rintro a w ⟨t_4, Dv_8, hlev_8, hF, hS, h⟩
  replace h := hk_10 _ h
  refine step hF (Y.assign hF rfl) rfl fun a hF => nil (then_n (ret_ (then_r (leavePN _ (nret h) Tryd.results8 hF hS (.cons (.tmp rfl) .nil) .nil rfl))))
 replace h := ncond_f h hbv_13
 refine skip_ (then_n (seq (region (step hF (Y.move hF rfl) rfl fun a hF => step hF (Y.eql hF rfl rfl) rfl fun a hF => step hF (Y.move hF rfl) rfl fun a hF => ?_))))
 obtain ⟨t_5, ht_5, h⟩ := ndet h
 refine list_cut 5 (fun a w => ∃ D, Dv_2.le D ∧ Frm 135 [] [(4, .bool false), (9, .pointer (some ⟨b_2, 0, none⟩)), (14, .pointer (some ⟨b_4, 0, none⟩)), (126, .bool t_5)] a ∧ St w0 D0 D [(1, .cells b [.int .i64 l.Ring, .slice p l.Starts.length c, .slice p_1 l.Events.length c_1] 25), (2, .cells b_1 [.int .i64 n.a0, .int .i64 n.a1] 64), (3, .cells b_2 [.int .i64 rv_5.1.Low, .int .i64 rv_5.1.High] 33), (4, .cells b_3 [.int .i64 l.Ring, .slice p l.Starts.length c, .slice p_6 ((([] : List SlaveEvent) ++ l.Events) ++ [rv_6]).length c_6] 25), (6, .own p_5 ([rv_6]).length c_5 ([.int .i64 rv_6.Kind, .int .i64 rv_6.First, .int .i64 rv_6.Count, .int .i64 rv_6.Lost, .int .i64 rv_6.Who, .int .i64 rv_6.Shown]) 66 6), (7, .cells b_4 [.int .i64 rv_8.1.Low, .int .i64 rv_8.1.High] 33)] w) ?_ ?_
 ·rcases bcases (rv_7.2 == 0) with hbv_16 | hbv_16
  ·skip
   replace h := cond_t ht_5 hbv_16
   refine guard_on hF rfl rfl hbv_16 (step hF (Y.move hF rfl) rfl fun a hF => guard_on hF rfl rfl hbv_16 (step hF (Y.move hF rfl) rfl fun a hF => guard_on hF rfl rfl hbv_16 ?_))
   have hr_4 : Reps C_int Dv_2 [rv_3] [.int .i64 rv_3] := Reps.cons (C := C_int) (x := rv_3) (c := [.int .i64 rv_3]) (r := []) rfl (Reps.nil)
   refine O.buildSlice (E := 3) (C := C_int) (xs := [rv_3]) (cs := [.int .i64 rv_3]) (us := [.int .i64 rv_3]) (parts := [(0, (.tmp 123))]) 8 hF hS rfl (by kernel_rfl) hr_4 rfl rfl rfl fun p_8 c_8 a w hF hS => guard_on hF rfl rfl hbv_16 ?_
   obtain ⟨Dv_9, hlev_9, hs_5, hS⟩ := hS.freezeC (i := 8) (xs := [rv_3]) rfl hr_4
   replace hs_4 := hs_4.mono hlev_9
   obtain ⟨rv_18, hx_15, h⟩ := bind_some h
   refine O.callP (us := [.slice p_7 rv_7.1.length c_7, .slice p_8 ([rv_3]).length c_8]) ca_18 hF hS (r0Alike_ok hS.stab rv_7.1 ([rv_3]) hs_4 hs_5 rv_18 hx_15) rfl rfl fun a w hF hS => step hF (Y.pick_t hF rfl hbv_16 rfl) rfl fun a hF => ?_
   obtain rfl := some_inj h
   exact nil (then_n ⟨Dv_9, hlev_9, hF.weak ⟨rfl, rfl, rfl, rfl, trivial⟩, hS.weak ⟨rfl, rfl, rfl, rfl, rfl, rfl, trivial⟩⟩)
  replace h := cond_f ht_5 hbv_16
  refine guard_off hF rfl rfl hbv_16 rfl fun a hF => guard_off hF rfl rfl hbv_16 rfl fun a hF => guard_off hF rfl rfl hbv_16 rfl fun a hF => guard_off hF rfl rfl hbv_16 rfl fun a hF => step hF (Y.pick_f hF rfl hbv_16 rfl) rfl fun a hF => ?_
  obtain rfl := some_inj h
  exact nil (then_n ⟨Dv_2, Stab.le.refl _, hF.weak ⟨rfl, rfl, rfl, rfl, trivial⟩, hS.weak ⟨rfl, rfl, rfl, rfl, rfl, rfl, trivial⟩⟩)
 rintro a w ⟨Dv_10, hlev_10, hF, hS⟩
 replace hG := hG.mono hlev_10
 refine step hF (Y.move hF rfl) rfl fun a hF => ?_
 obtain ⟨t_6, ht_6, h⟩ := ndet h
 refine join (N := 135) (rs := []) (w0 := w0) (D0 := D0) 4 (us := [(4, .bool false), (131, .bool t_6)]) (ms := [(1, .cells b [.int .i64 l.Ring, .slice p l.Starts.length c, .slice p_1 l.Events.length c_1] 25), (2, .cells b_1 [.int .i64 n.a0, .int .i64 n.a1] 64), (3, .cells b_2 [.int .i64 rv_5.1.Low, .int .i64 rv_5.1.High] 33), (4, .cells b_3 [.int .i64 l.Ring, .slice p l.Starts.length c, .slice p_6 ((([] : List SlaveEvent) ++ l.Events) ++ [rv_6]).length c_6] 25), (6, .own p_5 ([rv_6]).length c_5 ([.int .i64 rv_6.Kind, .int .i64 rv_6.First, .int .i64 rv_6.Count, .int .i64 rv_6.Lost, .int .i64 rv_6.Who, .int .i64 rv_6.Shown]) 66 6), (7, .cells b_4 [.int .i64 rv_8.1.Low, .int .i64 rv_8.1.High] 33)]) (D' := Dv_10) ?_ ?_
 ·rcases bcases t_5 with hbv_17 | hbv_17
  ·skip
   replace h := cond_t ht_6 hbv_17
   refine guard_on hF rfl rfl hbv_17 (step hF (Y.loadNL 7 sz_33 hF rfl hS rfl rfl rfl) rfl fun a hF => guard_on hF rfl rfl hbv_17 (step hF (Y.loadNL 3 sz_33 hF rfl hS rfl rfl rfl) rfl fun a hF => guard_on hF rfl rfl hbv_17 ?_))
   obtain ⟨rv_19, hx_16, h⟩ := bind_some h
   refine O.callP (us := [.agg #[.int .i64 rv_8.1.Low, .int .i64 rv_8.1.High], .agg #[.int .i64 rv_5.1.Low, .int .i64 rv_5.1.High]]) ca_44 hF hS (r0Within_ok hS.stab rv_8.1 rv_5.1 rv_19 hx_16) rfl rfl fun a w hF hS => step hF (Y.pick_t hF rfl hbv_17 rfl) rfl fun a hF => ?_
   obtain rfl := some_inj h
   exact nil (then_n ⟨hF.weak ⟨rfl, rfl, trivial⟩, hS.weak ⟨rfl, rfl, rfl, rfl, rfl, rfl, trivial⟩⟩)
  replace h := cond_f ht_6 hbv_17
  refine guard_off hF rfl rfl hbv_17 rfl fun a hF => guard_off hF rfl rfl hbv_17 rfl fun a hF => guard_off hF rfl rfl hbv_17 rfl fun a hF => step hF (Y.pick_f hF rfl hbv_17 rfl) rfl fun a hF => ?_
  obtain rfl := some_inj h
  exact nil (then_n ⟨hF.weak ⟨rfl, rfl, trivial⟩, hS.weak ⟨rfl, rfl, rfl, rfl, rfl, rfl, trivial⟩⟩)
 intro a w hF hS
 refine step hF (Y.move hF rfl) rfl fun a hF => ?_
 obtain ⟨KQ_12, ht_7, hk_12⟩ := nbnd_ex h
 refine list_cut 2 (fun a w => ∃ (t_7 : Bool) (D : Stab), Dv_10.le D ∧ Frm 135 [] [(4, .bool false), (134, .bool t_7)] a ∧ St w0 D0 D [(1, .cells b [.int .i64 l.Ring, .slice p l.Starts.length c, .slice p_1 l.Events.length c_1] 25), (2, .cells b_1 [.int .i64 n.a0, .int .i64 n.a1] 64), (3, .cells b_2 [.int .i64 rv_5.1.Low, .int .i64 rv_5.1.High] 33), (4, .cells b_3 [.int .i64 l.Ring, .slice p l.Starts.length c, .slice p_6 ((([] : List SlaveEvent) ++ l.Events) ++ [rv_6]).length c_6] 25), (6, .own p_5 ([rv_6]).length c_5 ([.int .i64 rv_6.Kind, .int .i64 rv_6.First, .int .i64 rv_6.Count, .int .i64 rv_6.Lost, .int .i64 rv_6.Who, .int .i64 rv_6.Shown]) 66 6), (7, .cells b_4 [.int .i64 rv_8.1.Low, .int .i64 rv_8.1.High] 33)] w ∧ KQ_12 t_7) ?_ ?_
 ·rcases bcases t_6 with hbv_18 | hbv_18
  ·skip
   replace h := ncond_t ht_7 hbv_18
   refine guard_on hF rfl rfl hbv_18 ?_
   obtain ⟨KQ_11, hx_17, hk_11⟩ := nbnd_ex h
   refine O.callPN (us := []) ca_23 hF hS (w7works_ok hS.stab hG KQ_11 hx_17) rfl rfl fun rv_21 h a w hF hS => ?_
   replace h := hk_11 _ h
   refine step hF (Y.pick_t hF rfl hbv_18 rfl) rfl fun a hF => nil (then_n ⟨_, Dv_10, Stab.le.refl _, hF.weak ⟨rfl, rfl, trivial⟩, hS.weak ⟨rfl, rfl, rfl, rfl, rfl, rfl, trivial⟩, nret h⟩)
  replace h := ncond_f ht_7 hbv_18
  refine guard_off hF rfl rfl hbv_18 rfl fun a hF => step hF (Y.pick_f hF rfl hbv_18 rfl) rfl fun a hF => nil (then_n ⟨_, Dv_10, Stab.le.refl _, hF.weak ⟨rfl, rfl, trivial⟩, hS.weak ⟨rfl, rfl, rfl, rfl, rfl, rfl, trivial⟩, nret h⟩)
 rintro a w ⟨t_7, Dv_11, hlev_11, hF, hS, h⟩
 replace h := hk_12 _ h
 refine step hF (Y.assign hF rfl) rfl fun a hF => nil (then_n (ret_ (leavePN _ (nret h) Tryd.results8 hF hS (.cons (.tmp rfl) .nil) .nil rfl)))
end Go.Proofs.YtmbgmefmkjeahaaDoor.Rt
