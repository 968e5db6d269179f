/- Walks of the functions of this seat: what each Go function comes to, as a Lean function, and the proof. A law. Under no conditions. -/
import Derived.Test.YtidmdgjgpmeecaaDoorWSZ
set_option linter.unusedVariables false
set_option linter.unusedSimpArgs false
set_option maxRecDepth 100000
set_option maxHeartbeats 4000000
namespace Go.Proofs.YtidmdgjgpmeecaaDoor.Rt
open Go Go.RowKit
noncomputable def remontoirlaw08_SpareSingle_k1 (sv : SpareStore) (rv_4 : (Int × Int)) (rv_5 : (Int × Int)) (rv_6 : ((List Int) × Int)) (last : Int) : Option Bool :=
  cond (((rv_5.1 != last) || ((rv_4.2 == 0) != (decide (last ≥ sv.Hours)))) || (rv_6.2 != rv_4.2))
  (some false)
  (cond (rv_4.2 != 0)
  ((cond (((rv_4.2 == 4) && (rv_4.1 == 0)) && ((rv_6.1.length : Int) == 0)) ((remontoirlaw08_works).bind fun rv_8 =>
  some rv_8) (some false)).bind fun t =>
  some t)
  ((cond (rv_4.1 == 1) ((remontoirref00_Alike rv_6.1 ([0])).bind fun rv_9 =>
  some rv_9) (some false)).bind fun t_1 =>
  (cond t_1 ((remontoirlaw08_works).bind fun rv_10 =>
  some rv_10) (some false)).bind fun t_2 =>
  some t_2))
noncomputable def remontoirlaw08_SpareSingle (sv : SpareStore) (machine : Int) : Option Bool :=
  (remontoirlaw08_sound sv).bind fun rv =>
  cond (!rv)
  ((remontoirlaw08_works).bind fun rv_1 =>
  some rv_1)
  ((remontoirref00_Rest machine (sv.Machines.length : Int)).bind fun rv_2 =>
  (idx sv.Machines rv_2).bind fun e =>
  (spare_Lasts sv rv_2).bind fun rv_3 =>
  (spare_Fewest (SpareStore.mk sv.Hours sv.Gap ([e]))).bind fun rv_4 =>
  (spare_Reach (SpareStore.mk sv.Hours sv.Gap ([e]))).bind fun rv_5 =>
  (spare_Need (SpareStore.mk sv.Hours sv.Gap ([e]))).bind fun rv_6 =>
  (spare_Pair (SpareStore.mk sv.Hours sv.Gap ([e]))).bind fun rv_7 =>
  cond ((((rv_3.2.2 != 0) || (rv_5.2 != 0)) || (rv_7.2 != 4)) || (rv_7.1 != 0))
  (some false)
  ((idx sv.Machines rv_2).bind fun e_1 =>
  (idx sv.Machines rv_2).bind fun e_2 =>
  cond (decide ((wr (e_1.From + e_2.Warm)) > 0))
  (remontoirlaw08_SpareSingle_k1 sv rv_4 rv_5 rv_6 0)
  (remontoirlaw08_SpareSingle_k1 sv rv_4 rv_5 rv_6 rv_3.2.1)))
theorem remontoirlaw08_SpareSingle_ok {w0 : World} {D0 : Stab} (hD : D0.on w0) (sv : SpareStore) (machine : Int) {p : Option Addr} {c : Nat} (hs : SRc C_SpareMachine D0 sv.Machines p c) (hG : Glob D0) (out : Bool) (h : remontoirlaw08_SpareSingle sv machine = some out) : Calls Tryd.prog 10 [.agg #[.int .i64 sv.Hours, .int .i64 sv.Gap, .slice p sv.Machines.length c], .int .i64 machine].toArray w0 (RetP D0 w0 (.bool out)) := by
 refine enter _ 133 Tryd.func10 rfl Tryd.ntmps10 rfl fun a hF => ?_
 replace hF : Frm 133 [] [(0, .agg #[.int .i64 sv.Hours, .int .i64 sv.Gap, .slice p sv.Machines.length c]), (1, .int .i64 machine)] a := hF
 have hS := St.start hD
 unfold remontoirlaw08_SpareSingle at h
 refine seq ?_
 refine region ?_
 refine O.box (cs := [.int .i64 sv.Hours, .int .i64 sv.Gap, .slice p sv.Machines.length c]) 1 hF rfl rfl hS rfl fun b a w hF hS => ?_
 refine step hF (Y.assign hF rfl) rfl fun a hF => ?_
 refine nil (then_n ?_)
 refine seq ?_
 refine seq ?_
 refine region ?_
 refine step hF (Y.loadNL 1 sz_24 hF rfl hS rfl rfl rfl) rfl fun a hF => ?_
 obtain ⟨rv, hx, h⟩ := bind_some h
 refine O.callP (us := [.agg #[.int .i64 sv.Hours, .int .i64 sv.Gap, .slice p sv.Machines.length c]]) ca_34 hF hS (remontoirlaw08_sound_ok hS.stab sv hs rv hx) rfl rfl fun a w hF hS => ?_
 refine step hF (Y.not hF rfl) rfl fun a hF => ?_
 refine nil (then_n ?_)
 refine cond_b hF rfl (fun hbv => ?_) (fun hbv => ?_)
 ·replace h := cond_t h hbv
  refine seq ?_
  refine region ?_
  obtain ⟨rv_1, hx_1, h⟩ := bind_some h
  refine O.callP (us := []) ca_21 hF hS (remontoirlaw08_works_ok hS.stab hG rv_1 hx_1) rfl rfl fun a w hF hS => ?_
  refine step hF (Y.assign hF rfl) rfl fun a hF => ?_
  refine nil (then_n ?_)
  refine ret_ (then_r ?_)
  obtain rfl := some_inj h
  exact leaveP Tryd.results10 hF hS (.cons (.tmp rfl) .nil) .nil rfl
 ·replace h := cond_f h hbv
  refine skip_ (then_n ?_)
  refine seq ?_
  refine region ?_
  refine step hF (Y.move hF rfl) rfl fun a hF => ?_
  refine step hF (Y.fieldAddr fo_24_2 hF rfl) rfl fun a hF => ?_
  refine step hF (Y.load1L 1 sz_22 hF rfl hS rfl rfl) rfl fun a hF => ?_
  refine step hF (Y.lenSl u_22 hF rfl) rfl fun a hF => ?_
  obtain ⟨rv_2, hx_2, h⟩ := bind_some h
  refine O.callP (us := [.int .i64 machine, .int .i64 (sv.Machines.length : Int)]) ca_42 hF hS (remontoirref00_Rest_ok hS.stab machine (sv.Machines.length : Int) rv_2 hx_2) rfl rfl fun a w hF hS => ?_
  refine step hF (Y.assign hF rfl) rfl fun a hF => ?_
  refine nil (then_n ?_)
  refine seq ?_
  refine region ?_
  refine step hF (Y.loadNL 1 sz_24 hF rfl hS rfl rfl rfl) rfl fun a hF => ?_
  refine O.alloc 2 zc_24 hF hS rfl fun b_1 a w hF hS => ?_
  refine O.store (us := [.int .i64 sv.Hours, .int .i64 sv.Gap, .slice p sv.Machines.length c]) 2 sz_24 hF rfl rfl rfl rfl hS rfl rfl fun a w hF hS => ?_
  refine nil (then_n ?_)
  refine seq ?_
  refine region ?_
  refine step hF (Y.fieldAddr fo_24_2 hF rfl) rfl fun a hF => ?_
  refine step hF (Y.load1L 1 sz_22 hF rfl hS rfl rfl) rfl fun a hF => ?_
  refine step hF (Y.move hF rfl) rfl fun a hF => ?_
  obtain ⟨e, hx_3, h⟩ := bind_some h
  obtain ⟨b_2, o, hE, hY⟩ := Y.indexS (P := Tryd.prog) (C := C_SpareMachine) (xs := sv.Machines) (T := 22) (x := (.tmp 29)) (y := (.tmp 30)) u_22 sz_52 hF rfl rfl (hs).1 hx_3
  obtain ⟨cc, hc, hcell⟩ := hE.open
  obtain rfl := C_SpareMachine.open hc
  refine step hF (hY) rfl fun a hF => ?_
  refine step hF (Y.loadNE (o := o) (k := 0) sz_52 hF rfl (hcell _ hS.stab) rfl rfl) rfl fun a hF => ?_
  have hr : Reps C_SpareMachine D0 [e] [.int .i64 e.From, .int .i64 e.Warm, .int .i64 e.Life.Low, .int .i64 e.Life.High, .int .i64 e.Drift] := Reps.cons (C := C_SpareMachine) (x := e) (c := [.int .i64 e.From, .int .i64 e.Warm, .int .i64 e.Life.Low, .int .i64 e.Life.High, .int .i64 e.Drift]) (r := []) rfl (Reps.nil)
  refine O.buildSlice (E := 52) (C := C_SpareMachine) (xs := [e]) (cs := [.int .i64 e.From, .int .i64 e.Warm, .int .i64 e.Life.Low, .int .i64 e.Life.High, .int .i64 e.Drift]) (us := [.agg #[.int .i64 e.From, .int .i64 e.Warm, .int .i64 e.Life.Low, .int .i64 e.Life.High, .int .i64 e.Drift]]) (parts := [(0, (.tmp 32))]) 3 hF hS rfl (by kernel_rfl) hr rfl rfl rfl fun p_1 c_1 a w hF hS => ?_
  refine step hF (Y.fieldAddr fo_24_2 hF rfl) rfl fun a hF => ?_
  refine O.store (us := [.slice p_1 ([e]).length c_1]) 2 sz_22 hF rfl rfl rfl rfl hS rfl rfl fun a w hF hS => ?_
  refine nil (then_n ?_)
  refine seq ?_
  refine region ?_
  refine step hF (Y.loadNL 1 sz_24 hF rfl hS rfl rfl rfl) rfl fun a hF => ?_
  refine step hF (Y.move hF rfl) rfl fun a hF => ?_
  obtain ⟨rv_3, hx_4, h⟩ := bind_some h
  refine O.callP (us := [.agg #[.int .i64 sv.Hours, .int .i64 sv.Gap, .slice p sv.Machines.length c], .int .i64 rv_2]) ca_15 hF hS (spare_Lasts_ok hS.stab sv rv_2 hs hG rv_3 hx_4) rfl rfl fun a w hF hS => ?_
  refine step hF (Y.move hF rfl) rfl fun a hF => ?_
  refine step hF (Y.extract hF rfl rfl) rfl fun a hF => ?_
  refine step hF (Y.extract hF rfl rfl) rfl fun a hF => ?_
  refine step hF (Y.extract hF rfl rfl) rfl fun a hF => ?_
  refine step hF (Y.assign hF rfl) rfl fun a hF => ?_
  refine step hF (Y.assign hF rfl) rfl fun a hF => ?_
  refine step hF (Y.assign hF rfl) rfl fun a hF => ?_
  refine nil (then_n ?_)
  refine seq ?_
  refine region ?_
  refine step hF (Y.loadNL 2 sz_24 hF rfl hS rfl rfl rfl) rfl fun a hF => ?_
  obtain ⟨Dv, hlev, hs_1, hS⟩ := hS.freezeC (i := 3) (xs := [e]) rfl hr
  replace hs := hs.mono hlev
  replace hG := hG.mono hlev
  replace hcell := fun w hw => hcell w (Stab.on.le hw hlev)
  replace hr := hr.mono hlev
  obtain ⟨rv_4, hx_5, h⟩ := bind_some h
  refine O.callP (us := [.agg #[.int .i64 sv.Hours, .int .i64 sv.Gap, .slice p_1 ([e]).length c_1]]) ca_22 hF hS (spare_Fewest_ok hS.stab (SpareStore.mk sv.Hours sv.Gap ([e])) hs_1 hG rv_4 hx_5) rfl rfl fun a w hF hS => ?_
  refine step hF (Y.move hF rfl) rfl fun a hF => ?_
  refine step hF (Y.extract hF rfl rfl) rfl fun a hF => ?_
  refine step hF (Y.extract hF rfl rfl) rfl fun a hF => ?_
  refine step hF (Y.assign hF rfl) rfl fun a hF => ?_
  refine step hF (Y.assign hF rfl) rfl fun a hF => ?_
  refine nil (then_n ?_)
  refine seq ?_
  refine region ?_
  refine step hF (Y.loadNL 2 sz_24 hF rfl hS rfl rfl rfl) rfl fun a hF => ?_
  obtain ⟨rv_5, hx_6, h⟩ := bind_some h
  refine O.callP (us := [.agg #[.int .i64 sv.Hours, .int .i64 sv.Gap, .slice p_1 ([e]).length c_1]]) ca_25 hF hS (spare_Reach_ok hS.stab (SpareStore.mk sv.Hours sv.Gap ([e])) hs_1 hG rv_5 hx_6) rfl rfl fun a w hF hS => ?_
  refine step hF (Y.move hF rfl) rfl fun a hF => ?_
  refine step hF (Y.extract hF rfl rfl) rfl fun a hF => ?_
  refine step hF (Y.extract hF rfl rfl) rfl fun a hF => ?_
  refine step hF (Y.assign hF rfl) rfl fun a hF => ?_
  refine step hF (Y.assign hF rfl) rfl fun a hF => ?_
  refine nil (then_n ?_)
  refine seq ?_
  refine region ?_
  refine step hF (Y.loadNL 2 sz_24 hF rfl hS rfl rfl rfl) rfl fun a hF => ?_
  obtain ⟨rv_6, hx_7, h⟩ := bind_some h
  refine O.callS (us := [.agg #[.int .i64 sv.Hours, .int .i64 sv.Gap, .slice p_1 ([e]).length c_1]]) ca_27 hF hS (spare_Need_ok hS.stab (SpareStore.mk sv.Hours sv.Gap ([e])) hs_1 hG rv_6 hx_7) rfl rfl fun v Dv_1 a w hR hlev_1 hF hS => ?_
  replace hs := hs.mono hlev_1
  replace hG := hG.mono hlev_1
  replace hcell := fun w hw => hcell w (Stab.on.le hw hlev_1)
  replace hr := hr.mono hlev_1
  replace hs_1 := hs_1.mono hlev_1
  obtain ⟨p_2, c_2, rfl, hs_2⟩ := hR
  refine step hF (Y.move hF rfl) rfl fun a hF => ?_
  refine step hF (Y.extract hF rfl rfl) rfl fun a hF => ?_
  refine step hF (Y.extract hF rfl rfl) rfl fun a hF => ?_
  refine step hF (Y.assign hF rfl) rfl fun a hF => ?_
  refine step hF (Y.assign hF rfl) rfl fun a hF => ?_
  refine nil (then_n ?_)
  refine seq ?_
  refine region ?_
  refine step hF (Y.loadNL 2 sz_24 hF rfl hS rfl rfl rfl) rfl fun a hF => ?_
  obtain ⟨rv_7, hx_8, h⟩ := bind_some h
  refine O.callP (us := [.agg #[.int .i64 sv.Hours, .int .i64 sv.Gap, .slice p_1 ([e]).length c_1]]) ca_30 hF hS (spare_Pair_ok hS.stab (SpareStore.mk sv.Hours sv.Gap ([e])) hs_1 hG rv_7 hx_8) rfl rfl fun a w hF hS => ?_
  refine step hF (Y.move hF rfl) rfl fun a hF => ?_
  refine step hF (Y.extract hF rfl rfl) rfl fun a hF => ?_
  refine step hF (Y.extract hF rfl rfl) rfl fun a hF => ?_
  refine step hF (Y.assign hF rfl) rfl fun a hF => ?_
  refine step hF (Y.assign hF rfl) rfl fun a hF => ?_
  refine nil (then_n ?_)
  refine seq ?_
  refine seq ?_
  refine region ?_
  refine step hF (Y.move hF rfl) rfl fun a hF => ?_
  refine step hF (Y.neq hF rfl rfl) rfl fun a hF => ?_
  refine step hF (Y.move hF rfl) rfl fun a hF => ?_
  refine join (N := 133) (rs := []) (w0 := w0) (D0 := D0) 3 (us := [(2, .pointer (some ⟨b, 0, none⟩)), (4, .bool false), (5, .int .i64 rv_2), (8, .int .i64 rv_3.2.1), (10, .int .i64 rv_4.1), (11, .int .i64 rv_4.2), (12, .int .i64 rv_5.1), (14, .slice p_2 rv_6.1.length c_2), (15, .int .i64 rv_6.2), (16, .int .i64 rv_7.1), (17, .int .i64 rv_7.2), (67, .bool ((rv_3.2.2 != 0) || (rv_5.2 != 0)))]) (ms := [(1, .cells b [.int .i64 sv.Hours, .int .i64 sv.Gap, .slice p sv.Machines.length c] 24), (2, .cells b_1 [.int .i64 sv.Hours, .int .i64 sv.Gap, .slice p_1 ([e]).length c_1] 24)]) (D' := Dv_1) ?_ ?_
  ·rcases bcases (rv_3.2.2 != 0) with hbv_1 | hbv_1
   ·-- true
    refine guard_off hF rfl rfl hbv_1 rfl fun a hF => ?_
    refine guard_off hF rfl rfl hbv_1 rfl fun a hF => ?_
    refine step hF (Y.pick_t hF rfl hbv_1 rfl) rfl fun a hF => ?_
    exact nil (then_n ⟨hF.weak ⟨rfl, rfl, rfl, rfl, rfl, rfl, rfl, rfl, rfl, rfl, rfl, (by rw [hbv_1]; rfl), trivial⟩, hS.weak ⟨rfl, rfl, trivial⟩⟩)
   ·-- false
    refine guard_on hF rfl rfl hbv_1 ?_
    refine step hF (Y.move hF rfl) rfl fun a hF => ?_
    refine guard_on hF rfl rfl hbv_1 ?_
    refine step hF (Y.neq hF rfl rfl) rfl fun a hF => ?_
    refine step hF (Y.pick_f hF rfl hbv_1 rfl) rfl fun a hF => ?_
    exact nil (then_n ⟨hF.weak ⟨rfl, rfl, rfl, rfl, rfl, rfl, rfl, rfl, rfl, rfl, rfl, (by rw [hbv_1]; rfl), trivial⟩, hS.weak ⟨rfl, rfl, trivial⟩⟩)
  intro a w hF hS
  refine step hF (Y.move hF rfl) rfl fun a hF => ?_
  refine join (N := 133) (rs := []) (w0 := w0) (D0 := D0) 3 (us := [(2, .pointer (some ⟨b, 0, none⟩)), (4, .bool false), (5, .int .i64 rv_2), (8, .int .i64 rv_3.2.1), (10, .int .i64 rv_4.1), (11, .int .i64 rv_4.2), (12, .int .i64 rv_5.1), (14, .slice p_2 rv_6.1.length c_2), (15, .int .i64 rv_6.2), (16, .int .i64 rv_7.1), (71, .bool (((rv_3.2.2 != 0) || (rv_5.2 != 0)) || (rv_7.2 != 4)))]) (ms := [(1, .cells b [.int .i64 sv.Hours, .int .i64 sv.Gap, .slice p sv.Machines.length c] 24), (2, .cells b_1 [.int .i64 sv.Hours, .int .i64 sv.Gap, .slice p_1 ([e]).length c_1] 24)]) (D' := Dv_1) ?_ ?_
  ·rcases bcases ((rv_3.2.2 != 0) || (rv_5.2 != 0)) with hbv_2 | hbv_2
   ·-- true
    refine guard_off hF rfl rfl hbv_2 rfl fun a hF => ?_
    refine guard_off hF rfl rfl hbv_2 rfl fun a hF => ?_
    refine step hF (Y.pick_t hF rfl hbv_2 rfl) rfl fun a hF => ?_
    exact nil (then_n ⟨hF.weak ⟨rfl, rfl, rfl, rfl, rfl, rfl, rfl, rfl, rfl, rfl, (by rw [hbv_2]; rfl), trivial⟩, hS.weak ⟨rfl, rfl, trivial⟩⟩)
   ·-- false
    refine guard_on hF rfl rfl hbv_2 ?_
    refine step hF (Y.move hF rfl) rfl fun a hF => ?_
    refine guard_on hF rfl rfl hbv_2 ?_
    refine step hF (Y.neq hF rfl rfl) rfl fun a hF => ?_
    refine step hF (Y.pick_f hF rfl hbv_2 rfl) rfl fun a hF => ?_
    exact nil (then_n ⟨hF.weak ⟨rfl, rfl, rfl, rfl, rfl, rfl, rfl, rfl, rfl, rfl, (by rw [hbv_2]; rfl), trivial⟩, hS.weak ⟨rfl, rfl, trivial⟩⟩)
  intro a w hF hS
  refine step hF (Y.move hF rfl) rfl fun a hF => ?_
  refine join (N := 133) (rs := []) (w0 := w0) (D0 := D0) 3 (us := [(2, .pointer (some ⟨b, 0, none⟩)), (4, .bool false), (5, .int .i64 rv_2), (8, .int .i64 rv_3.2.1), (10, .int .i64 rv_4.1), (11, .int .i64 rv_4.2), (12, .int .i64 rv_5.1), (14, .slice p_2 rv_6.1.length c_2), (15, .int .i64 rv_6.2), (75, .bool ((((rv_3.2.2 != 0) || (rv_5.2 != 0)) || (rv_7.2 != 4)) || (rv_7.1 != 0)))]) (ms := [(1, .cells b [.int .i64 sv.Hours, .int .i64 sv.Gap, .slice p sv.Machines.length c] 24), (2, .cells b_1 [.int .i64 sv.Hours, .int .i64 sv.Gap, .slice p_1 ([e]).length c_1] 24)]) (D' := Dv_1) ?_ ?_
  ·rcases bcases (((rv_3.2.2 != 0) || (rv_5.2 != 0)) || (rv_7.2 != 4)) with hbv_3 | hbv_3
   ·-- true
    refine guard_off hF rfl rfl hbv_3 rfl fun a hF => ?_
    refine guard_off hF rfl rfl hbv_3 rfl fun a hF => ?_
    refine step hF (Y.pick_t hF rfl hbv_3 rfl) rfl fun a hF => ?_
    exact nil (then_n ⟨hF.weak ⟨rfl, rfl, rfl, rfl, rfl, rfl, rfl, rfl, rfl, (by rw [hbv_3]; rfl), trivial⟩, hS.weak ⟨rfl, rfl, trivial⟩⟩)
   ·-- false
    refine guard_on hF rfl rfl hbv_3 ?_
    refine step hF (Y.move hF rfl) rfl fun a hF => ?_
    refine guard_on hF rfl rfl hbv_3 ?_
    refine step hF (Y.neq hF rfl rfl) rfl fun a hF => ?_
    refine step hF (Y.pick_f hF rfl hbv_3 rfl) rfl fun a hF => ?_
    exact nil (then_n ⟨hF.weak ⟨rfl, rfl, rfl, rfl, rfl, rfl, rfl, rfl, rfl, (by rw [hbv_3]; rfl), trivial⟩, hS.weak ⟨rfl, rfl, trivial⟩⟩)
  intro a w hF hS
  refine nil (then_n ?_)
  refine cond_b hF rfl (fun hbv_4 => ?_) (fun hbv_4 => ?_)
  ·replace h := cond_t h hbv_4
   refine seq ?_
   refine region ?_
   refine step hF (Y.assign hF rfl) rfl fun a hF => ?_
   refine nil (then_n ?_)
   refine ret_ (then_r ?_)
   obtain rfl := some_inj h
   exact leaveP Tryd.results10 hF hS (.cons (.tmp rfl) .nil) .nil rfl
  ·replace h := cond_f h hbv_4
   refine skip_ (then_n ?_)
   refine seq_cut (fun a w => ∃ (last : Int), Frm 133 [] [(2, .pointer (some ⟨b, 0, none⟩)), (4, .bool false), (8, .int .i64 last), (10, .int .i64 rv_4.1), (11, .int .i64 rv_4.2), (12, .int .i64 rv_5.1), (14, .slice p_2 rv_6.1.length c_2), (15, .int .i64 rv_6.2)] a ∧ St w0 D0 Dv_1 [(1, .cells b [.int .i64 sv.Hours, .int .i64 sv.Gap, .slice p sv.Machines.length c] 24), (2, .cells b_1 [.int .i64 sv.Hours, .int .i64 sv.Gap, .slice p_1 ([e]).length c_1] 24)] w ∧ remontoirlaw08_SpareSingle_k1 sv rv_4 rv_5 rv_6 last = some out) ?_ ?_
   ·skip
    refine seq ?_
    refine draws 14 [(0, true), (1, true), (2, true), (3, true), (4, true), (5, true), (6, true), (7, true), (8, true), (9, true), (10, true), (11, true), (12, true), (13, true)] mixed_ (by kernel_rfl) (fun w => St w0 D0 Dv_1 _ w) hS.drew (fun _ _ _ _ h => h) ?_
    replace hS := hS.drew
    refine stepT (i := 0) rfl hF (fun w hS => Y.fieldAddr fo_24_2 hF rfl) rfl fun a hF => ?_
    refine stepT (i := 1) rfl hF (fun w hS => Y.load1L 1 sz_22 hF rfl hS rfl rfl) rfl fun a hF => ?_
    refine stepT (i := 2) rfl hF (fun w hS => Y.move hF rfl) rfl fun a hF => ?_
    obtain ⟨e_1, hx_12, h⟩ := bind_some h
    obtain ⟨b_3, o_1, hE_1, hY_1⟩ := Y.indexS (P := Tryd.prog) (C := C_SpareMachine) (xs := sv.Machines) (T := 22) (x := (.tmp 77)) (y := (.tmp 78)) u_22 sz_52 hF rfl rfl (hs).1 hx_12
    obtain ⟨cc_1, hc_1, hcell_1⟩ := hE_1.open
    obtain rfl := C_SpareMachine.open hc_1
    refine stepT (i := 3) rfl hF (fun w hS => hY_1) rfl fun a hF => ?_
    refine stepT (i := 4) rfl hF (fun w hS => Y.fieldAddr fo_52_0 hF rfl) rfl fun a hF => ?_
    refine stepT (i := 5) rfl hF (fun w hS => Y.load1 sz_3 hF rfl (hcell_1 _ hS.stab 0 _ rfl)) rfl fun a hF => ?_
    refine stepT (i := 6) rfl hF (fun w hS => Y.fieldAddr fo_24_2 hF rfl) rfl fun a hF => ?_
    refine stepT (i := 7) rfl hF (fun w hS => Y.load1L 1 sz_22 hF rfl hS rfl rfl) rfl fun a hF => ?_
    refine stepT (i := 8) rfl hF (fun w hS => Y.move hF rfl) rfl fun a hF => ?_
    obtain ⟨e_2, hx_13, h⟩ := bind_some h
    obtain ⟨b_4, o_2, hE_2, hY_2⟩ := Y.indexS (P := Tryd.prog) (C := C_SpareMachine) (xs := sv.Machines) (T := 22) (x := (.tmp 83)) (y := (.tmp 84)) u_22 sz_52 hF rfl rfl (hs).1 hx_13
    obtain ⟨cc_2, hc_2, hcell_2⟩ := hE_2.open
    obtain rfl := C_SpareMachine.open hc_2
    refine stepT (i := 9) rfl hF (fun w hS => hY_2) rfl fun a hF => ?_
    refine stepT (i := 10) rfl hF (fun w hS => Y.fieldAddr fo_52_1 hF rfl) rfl fun a hF => ?_
    refine stepT (i := 11) rfl hF (fun w hS => Y.load1 sz_3 hF rfl (hcell_2 _ hS.stab 1 _ rfl)) rfl fun a hF => ?_
    refine stepT (i := 12) rfl hF (fun w hS => Y.add hF rfl rfl) rfl fun a hF => ?_
    refine stepT (i := 13) rfl hF (fun w hS => Y.gtr hF rfl rfl) rfl fun a hF => ?_
    refine toTail ?_
    refine nil (then_n ?_)
    refine cond_b hF rfl (fun hbv_14 => ?_) (fun hbv_14 => ?_)
    ·replace h := cond_t h hbv_14
     refine region ?_
     refine step hF (Y.assign hF rfl) rfl fun a hF => ?_
     refine nil (then_n ?_)
     exact ⟨0, hF.weak ⟨rfl, rfl, rfl, rfl, rfl, rfl, rfl, rfl, trivial⟩, hS.weak ⟨rfl, rfl, trivial⟩, h⟩
    ·replace h := cond_f h hbv_14
     refine skip_ (then_n ?_)
     exact ⟨rv_3.2.1, hF.weak ⟨rfl, rfl, rfl, rfl, rfl, rfl, rfl, rfl, trivial⟩, hS.weak ⟨rfl, rfl, trivial⟩, h⟩
   ·rintro a w ⟨last, hF, hS, h⟩
    unfold remontoirlaw08_SpareSingle_k1 at h
    refine seq ?_
    refine seq ?_
    refine region ?_
    refine step hF (Y.move hF rfl) rfl fun a hF => ?_
    refine step hF (Y.move hF rfl) rfl fun a hF => ?_
    refine step hF (Y.neq hF rfl rfl) rfl fun a hF => ?_
    refine step hF (Y.move hF rfl) rfl fun a hF => ?_
    refine join (N := 133) (rs := []) (w0 := w0) (D0 := D0) 8 (us := [(4, .bool false), (10, .int .i64 rv_4.1), (11, .int .i64 rv_4.2), (14, .slice p_2 rv_6.1.length c_2), (15, .int .i64 rv_6.2), (101, .bool ((rv_5.1 != last) || ((rv_4.2 == 0) != (decide (last ≥ sv.Hours)))))]) (ms := [(1, .cells b [.int .i64 sv.Hours, .int .i64 sv.Gap, .slice p sv.Machines.length c] 24), (2, .cells b_1 [.int .i64 sv.Hours, .int .i64 sv.Gap, .slice p_1 ([e]).length c_1] 24)]) (D' := Dv_1) ?_ ?_
    ·rcases bcases (rv_5.1 != last) with hbv_5 | hbv_5
     ·-- true
      refine guard_off hF rfl rfl hbv_5 rfl fun a hF => ?_
      refine guard_off hF rfl rfl hbv_5 rfl fun a hF => ?_
      refine guard_off hF rfl rfl hbv_5 rfl fun a hF => ?_
      refine guard_off hF rfl rfl hbv_5 rfl fun a hF => ?_
      refine guard_off hF rfl rfl hbv_5 rfl fun a hF => ?_
      refine guard_off hF rfl rfl hbv_5 rfl fun a hF => ?_
      refine guard_off hF rfl rfl hbv_5 rfl fun a hF => ?_
      refine step hF (Y.pick_t hF rfl hbv_5 rfl) rfl fun a hF => ?_
      exact nil (then_n ⟨hF.weak ⟨rfl, rfl, rfl, rfl, rfl, (by rw [hbv_5]; rfl), trivial⟩, hS.weak ⟨rfl, rfl, trivial⟩⟩)
     ·-- false
      refine guard_on hF rfl rfl hbv_5 ?_
      refine step hF (Y.move hF rfl) rfl fun a hF => ?_
      refine guard_on hF rfl rfl hbv_5 ?_
      refine step hF (Y.eql hF rfl rfl) rfl fun a hF => ?_
      refine guard_on hF rfl rfl hbv_5 ?_
      refine step hF (Y.move hF rfl) rfl fun a hF => ?_
      refine guard_on hF rfl rfl hbv_5 ?_
      refine step hF (Y.fieldAddr fo_24_0 hF rfl) rfl fun a hF => ?_
      refine guard_on hF rfl rfl hbv_5 ?_
      refine step hF (Y.load1L 1 sz_3 hF rfl hS rfl rfl) rfl fun a hF => ?_
      refine guard_on hF rfl rfl hbv_5 ?_
      refine step hF (Y.geq hF rfl rfl) rfl fun a hF => ?_
      refine guard_on hF rfl rfl hbv_5 ?_
      refine step hF (Y.neb u_4 hF rfl rfl) rfl fun a hF => ?_
      refine step hF (Y.pick_f hF rfl hbv_5 rfl) rfl fun a hF => ?_
      exact nil (then_n ⟨hF.weak ⟨rfl, rfl, rfl, rfl, rfl, (by rw [hbv_5]; rfl), trivial⟩, hS.weak ⟨rfl, rfl, trivial⟩⟩)
    intro a w hF hS
    refine step hF (Y.move hF rfl) rfl fun a hF => ?_
    refine join (N := 133) (rs := []) (w0 := w0) (D0 := D0) 4 (us := [(4, .bool false), (10, .int .i64 rv_4.1), (11, .int .i64 rv_4.2), (14, .slice p_2 rv_6.1.length c_2), (106, .bool (((rv_5.1 != last) || ((rv_4.2 == 0) != (decide (last ≥ sv.Hours)))) || (rv_6.2 != rv_4.2)))]) (ms := [(1, .cells b [.int .i64 sv.Hours, .int .i64 sv.Gap, .slice p sv.Machines.length c] 24), (2, .cells b_1 [.int .i64 sv.Hours, .int .i64 sv.Gap, .slice p_1 ([e]).length c_1] 24)]) (D' := Dv_1) ?_ ?_
    ·rcases bcases ((rv_5.1 != last) || ((rv_4.2 == 0) != (decide (last ≥ sv.Hours)))) with hbv_6 | hbv_6
     ·-- true
      refine guard_off hF rfl rfl hbv_6 rfl fun a hF => ?_
      refine guard_off hF rfl rfl hbv_6 rfl fun a hF => ?_
      refine guard_off hF rfl rfl hbv_6 rfl fun a hF => ?_
      refine step hF (Y.pick_t hF rfl hbv_6 rfl) rfl fun a hF => ?_
      exact nil (then_n ⟨hF.weak ⟨rfl, rfl, rfl, rfl, (by rw [hbv_6]; rfl), trivial⟩, hS.weak ⟨rfl, rfl, trivial⟩⟩)
     ·-- false
      refine guard_on hF rfl rfl hbv_6 ?_
      refine step hF (Y.move hF rfl) rfl fun a hF => ?_
      refine guard_on hF rfl rfl hbv_6 ?_
      refine step hF (Y.move hF rfl) rfl fun a hF => ?_
      refine guard_on hF rfl rfl hbv_6 ?_
      refine step hF (Y.neq hF rfl rfl) rfl fun a hF => ?_
      refine step hF (Y.pick_f hF rfl hbv_6 rfl) rfl fun a hF => ?_
      exact nil (then_n ⟨hF.weak ⟨rfl, rfl, rfl, rfl, (by rw [hbv_6]; rfl), trivial⟩, hS.weak ⟨rfl, rfl, trivial⟩⟩)
    intro a w hF hS
    refine nil (then_n ?_)
    refine cond_b hF rfl (fun hbv_7 => ?_) (fun hbv_7 => ?_)
    ·replace h := cond_t h hbv_7
     refine seq ?_
     refine region ?_
     refine step hF (Y.assign hF rfl) rfl fun a hF => ?_
     refine nil (then_n ?_)
     refine ret_ (then_r ?_)
     obtain rfl := some_inj h
     exact leaveP Tryd.results10 hF hS (.cons (.tmp rfl) .nil) .nil rfl
    ·replace h := cond_f h hbv_7
     refine skip_ (then_n ?_)
     refine seq ?_
     refine seq ?_
     refine region ?_
     refine step hF (Y.move hF rfl) rfl fun a hF => ?_
     refine step hF (Y.neq hF rfl rfl) rfl fun a hF => ?_
     refine nil (then_n ?_)
     refine cond_b hF rfl (fun hbv_8 => ?_) (fun hbv_8 => ?_)
     ·replace h := cond_t h hbv_8
      refine seq ?_
      refine region ?_
      refine step hF (Y.move hF rfl) rfl fun a hF => ?_
      refine step hF (Y.eql hF rfl rfl) rfl fun a hF => ?_
      refine step hF (Y.move hF rfl) rfl fun a hF => ?_
      refine join (N := 133) (rs := []) (w0 := w0) (D0 := D0) 3 (us := [(4, .bool false), (10, .int .i64 rv_4.1), (14, .slice p_2 rv_6.1.length c_2), (114, .bool ((rv_4.2 == 4) && (rv_4.1 == 0)))]) (ms := [(1, .cells b [.int .i64 sv.Hours, .int .i64 sv.Gap, .slice p sv.Machines.length c] 24), (2, .cells b_1 [.int .i64 sv.Hours, .int .i64 sv.Gap, .slice p_1 ([e]).length c_1] 24)]) (D' := Dv_1) ?_ ?_
      ·rcases bcases (rv_4.2 == 4) with hbv_9 | hbv_9
       ·-- true
        refine guard_on hF rfl rfl hbv_9 ?_
        refine step hF (Y.move hF rfl) rfl fun a hF => ?_
        refine guard_on hF rfl rfl hbv_9 ?_
        refine step hF (Y.eql hF rfl rfl) rfl fun a hF => ?_
        refine step hF (Y.pick_t hF rfl hbv_9 rfl) rfl fun a hF => ?_
        exact nil (then_n ⟨hF.weak ⟨rfl, rfl, rfl, (by rw [hbv_9]; rfl), trivial⟩, hS.weak ⟨rfl, rfl, trivial⟩⟩)
       ·-- false
        refine guard_off hF rfl rfl hbv_9 rfl fun a hF => ?_
        refine guard_off hF rfl rfl hbv_9 rfl fun a hF => ?_
        refine step hF (Y.pick_f hF rfl hbv_9 rfl) rfl fun a hF => ?_
        exact nil (then_n ⟨hF.weak ⟨rfl, rfl, rfl, (by rw [hbv_9]; rfl), trivial⟩, hS.weak ⟨rfl, rfl, trivial⟩⟩)
      intro a w hF hS
      refine step hF (Y.move hF rfl) rfl fun a hF => ?_
      refine join (N := 133) (rs := []) (w0 := w0) (D0 := D0) 4 (us := [(4, .bool false), (10, .int .i64 rv_4.1), (14, .slice p_2 rv_6.1.length c_2), (119, .bool (((rv_4.2 == 4) && (rv_4.1 == 0)) && ((rv_6.1.length : Int) == 0)))]) (ms := [(1, .cells b [.int .i64 sv.Hours, .int .i64 sv.Gap, .slice p sv.Machines.length c] 24), (2, .cells b_1 [.int .i64 sv.Hours, .int .i64 sv.Gap, .slice p_1 ([e]).length c_1] 24)]) (D' := Dv_1) ?_ ?_
      ·rcases bcases ((rv_4.2 == 4) && (rv_4.1 == 0)) with hbv_10 | hbv_10
       ·-- true
        refine guard_on hF rfl rfl hbv_10 ?_
        refine step hF (Y.move hF rfl) rfl fun a hF => ?_
        refine guard_on hF rfl rfl hbv_10 ?_
        refine step hF (Y.lenSl u_39 hF rfl) rfl fun a hF => ?_
        refine guard_on hF rfl rfl hbv_10 ?_
        refine step hF (Y.eql hF rfl rfl) rfl fun a hF => ?_
        refine step hF (Y.pick_t hF rfl hbv_10 rfl) rfl fun a hF => ?_
        exact nil (then_n ⟨hF.weak ⟨rfl, rfl, rfl, (by rw [hbv_10]; rfl), trivial⟩, hS.weak ⟨rfl, rfl, trivial⟩⟩)
       ·-- false
        refine guard_off hF rfl rfl hbv_10 rfl fun a hF => ?_
        refine guard_off hF rfl rfl hbv_10 rfl fun a hF => ?_
        refine guard_off hF rfl rfl hbv_10 rfl fun a hF => ?_
        refine step hF (Y.pick_f hF rfl hbv_10 rfl) rfl fun a hF => ?_
        exact nil (then_n ⟨hF.weak ⟨rfl, rfl, rfl, (by rw [hbv_10]; rfl), trivial⟩, hS.weak ⟨rfl, rfl, trivial⟩⟩)
      intro a w hF hS
      refine step hF (Y.move hF rfl) rfl fun a hF => ?_
      obtain ⟨t, ht, h⟩ := bind_some h
      refine join (N := 133) (rs := []) (w0 := w0) (D0 := D0) 2 (us := [(4, .bool false), (10, .int .i64 rv_4.1), (14, .slice p_2 rv_6.1.length c_2), (122, .bool t)]) (ms := [(1, .cells b [.int .i64 sv.Hours, .int .i64 sv.Gap, .slice p sv.Machines.length c] 24), (2, .cells b_1 [.int .i64 sv.Hours, .int .i64 sv.Gap, .slice p_1 ([e]).length c_1] 24)]) (D' := Dv_1) ?_ ?_
      ·rcases bcases (((rv_4.2 == 4) && (rv_4.1 == 0)) && ((rv_6.1.length : Int) == 0)) with hbv_11 | hbv_11
       ·-- true
        replace h := cond_t ht hbv_11
        refine guard_on hF rfl rfl hbv_11 ?_
        obtain ⟨rv_8, hx_9, h⟩ := bind_some h
        refine O.callP (us := []) ca_21 hF hS (remontoirlaw08_works_ok hS.stab hG rv_8 hx_9) rfl rfl fun a w hF hS => ?_
        refine step hF (Y.pick_t hF rfl hbv_11 rfl) rfl fun a hF => ?_
        obtain rfl := some_inj h
        exact nil (then_n ⟨hF.weak ⟨rfl, rfl, rfl, rfl, trivial⟩, hS.weak ⟨rfl, rfl, trivial⟩⟩)
       ·-- false
        replace h := cond_f ht hbv_11
        refine guard_off hF rfl rfl hbv_11 rfl fun a hF => ?_
        refine step hF (Y.pick_f hF rfl hbv_11 rfl) rfl fun a hF => ?_
        obtain rfl := some_inj h
        exact nil (then_n ⟨hF.weak ⟨rfl, rfl, rfl, rfl, trivial⟩, hS.weak ⟨rfl, rfl, trivial⟩⟩)
      intro a w hF hS
      refine step hF (Y.assign hF rfl) rfl fun a hF => ?_
      refine nil (then_n ?_)
      refine ret_ (then_r ?_)
      obtain rfl := some_inj h
      exact leaveP Tryd.results10 hF hS (.cons (.tmp rfl) .nil) .nil rfl
     ·replace h := cond_f h hbv_8
      refine skip_ (then_n ?_)
      refine seq ?_
      refine region ?_
      refine step hF (Y.move hF rfl) rfl fun a hF => ?_
      refine step hF (Y.eql hF rfl rfl) rfl fun a hF => ?_
      refine step hF (Y.move hF rfl) rfl fun a hF => ?_
      obtain ⟨t_1, ht_1, h⟩ := bind_some h
      refine list_cut 4 (fun a w => ∃ D, Dv_1.le D ∧ Frm 133 [] [(4, .bool false), (129, .bool t_1)] a ∧ St w0 D0 D [(1, .cells b [.int .i64 sv.Hours, .int .i64 sv.Gap, .slice p sv.Machines.length c] 24), (2, .cells b_1 [.int .i64 sv.Hours, .int .i64 sv.Gap, .slice p_1 ([e]).length c_1] 24)] w) ?_ ?_
      ·rcases bcases (rv_4.1 == 1) with hbv_12 | hbv_12
       ·-- true
        replace h := cond_t ht_1 hbv_12
        refine guard_on hF rfl rfl hbv_12 ?_
        refine step hF (Y.move hF rfl) rfl fun a hF => ?_
        refine guard_on hF rfl rfl hbv_12 ?_
        have hr_1 : Reps C_int Dv_1 [0] [.int .i64 0] := Reps.cons (C := C_int) (x := 0) (c := [.int .i64 0]) (r := []) rfl (Reps.nil)
        refine O.buildSlice (E := 3) (C := C_int) (xs := [0]) (cs := [.int .i64 0]) (us := [.int .i64 0]) (parts := [(0, (.const (.int .i64 0)))]) 4 hF hS rfl (by kernel_rfl) hr_1 rfl rfl rfl fun p_3 c_3 a w hF hS => ?_
        refine guard_on hF rfl rfl hbv_12 ?_
        obtain ⟨Dv_2, hlev_2, hs_3, hS⟩ := hS.freezeC (i := 4) (xs := [0]) rfl hr_1
        replace hs := hs.mono hlev_2
        replace hG := hG.mono hlev_2
        replace hcell := fun w hw => hcell w (Stab.on.le hw hlev_2)
        replace hr := hr.mono hlev_2
        replace hs_1 := hs_1.mono hlev_2
        replace hs_2 := hs_2.mono hlev_2
        replace hr_1 := hr_1.mono hlev_2
        obtain ⟨rv_9, hx_10, h⟩ := bind_some h
        refine O.callP (us := [.slice p_2 rv_6.1.length c_2, .slice p_3 ([0]).length c_3]) ca_29 hF hS (remontoirref00_Alike_ok hS.stab rv_6.1 ([0]) hs_2 hs_3 rv_9 hx_10) rfl rfl fun a w hF hS => ?_
        refine step hF (Y.pick_t hF rfl hbv_12 rfl) rfl fun a hF => ?_
        obtain rfl := some_inj h
        exact nil (then_n ⟨Dv_2, hlev_2, hF.weak ⟨rfl, rfl, trivial⟩, hS.weak ⟨rfl, rfl, trivial⟩⟩)
       ·-- false
        replace h := cond_f ht_1 hbv_12
        refine guard_off hF rfl rfl hbv_12 rfl fun a hF => ?_
        refine guard_off hF rfl rfl hbv_12 rfl fun a hF => ?_
        refine guard_off hF rfl rfl hbv_12 rfl fun a hF => ?_
        refine step hF (Y.pick_f hF rfl hbv_12 rfl) rfl fun a hF => ?_
        obtain rfl := some_inj h
        exact nil (then_n ⟨Dv_1, Stab.le.refl _, hF.weak ⟨rfl, rfl, trivial⟩, hS.weak ⟨rfl, rfl, trivial⟩⟩)
      rintro a w ⟨Dv_3, hlev_3, hF, hS⟩
      replace hs := hs.mono hlev_3
      replace hG := hG.mono hlev_3
      replace hcell := fun w hw => hcell w (Stab.on.le hw hlev_3)
      replace hr := hr.mono hlev_3
      replace hs_1 := hs_1.mono hlev_3
      replace hs_2 := hs_2.mono hlev_3
      refine step hF (Y.move hF rfl) rfl fun a hF => ?_
      obtain ⟨t_2, ht_2, h⟩ := bind_some h
      refine join (N := 133) (rs := []) (w0 := w0) (D0 := D0) 2 (us := [(4, .bool false), (132, .bool t_2)]) (ms := [(1, .cells b [.int .i64 sv.Hours, .int .i64 sv.Gap, .slice p sv.Machines.length c] 24), (2, .cells b_1 [.int .i64 sv.Hours, .int .i64 sv.Gap, .slice p_1 ([e]).length c_1] 24)]) (D' := Dv_3) ?_ ?_
      ·rcases bcases t_1 with hbv_13 | hbv_13
       ·-- true
        replace h := cond_t ht_2 hbv_13
        refine guard_on hF rfl rfl hbv_13 ?_
        obtain ⟨rv_10, hx_11, h⟩ := bind_some h
        refine O.callP (us := []) ca_21 hF hS (remontoirlaw08_works_ok hS.stab hG rv_10 hx_11) rfl rfl fun a w hF hS => ?_
        refine step hF (Y.pick_t hF rfl hbv_13 rfl) rfl fun a hF => ?_
        obtain rfl := some_inj h
        exact nil (then_n ⟨hF.weak ⟨rfl, rfl, trivial⟩, hS.weak ⟨rfl, rfl, trivial⟩⟩)
       ·-- false
        replace h := cond_f ht_2 hbv_13
        refine guard_off hF rfl rfl hbv_13 rfl fun a hF => ?_
        refine step hF (Y.pick_f hF rfl hbv_13 rfl) rfl fun a hF => ?_
        obtain rfl := some_inj h
        exact nil (then_n ⟨hF.weak ⟨rfl, rfl, trivial⟩, hS.weak ⟨rfl, rfl, trivial⟩⟩)
      intro a w hF hS
      refine step hF (Y.assign hF rfl) rfl fun a hF => ?_
      refine nil (then_n ?_)
      refine ret_ ?_
      obtain rfl := some_inj h
      exact leaveP Tryd.results10 hF hS (.cons (.tmp rfl) .nil) .nil rfl

end Go.Proofs.YtidmdgjgpmeecaaDoor.Rt
