/- Walks of the functions of this seat: what each Go function comes to, as a Lean function, and the proof. A law. Under no conditions. -/
import Derived.Test.YtidmdgjgpmeecaaDoorWTZ
set_option linter.unusedVariables false
set_option linter.unusedSimpArgs false
set_option maxRecDepth 100000
set_option maxHeartbeats 4000000
namespace Go.Proofs.YtidmdgjgpmeecaaDoor.Rt
open Go Go.RowKit
noncomputable def remontoirlaw08_SpareNeeds (sv : SpareStore) (machine : Int) : Option Bool :=
  (spare_Need sv).bind fun rv =>
  (spare_Fewest sv).bind fun rv_1 =>
  (spare_Pair sv).bind fun rv_2 =>
  (remontoirlaw08_sound sv).bind fun rv_3 =>
  cond (!rv_3)
  ((cond ((((rv.2 == 80) && (rv_1.2 == rv.2)) && (rv_2.2 == rv.2)) && ((wr ((wr ((rv.1.length : Int) + rv_1.1)) + rv_2.1)) == 0)) ((remontoirlaw08_works).bind fun rv_4 =>
  some rv_4) (some false)).bind fun t =>
  some t)
  ((cond (rv.2 != rv_1.2) (some true) ((remontoirref00_Climbs rv.1 (sv.Machines.length : Int)).bind fun rv_5 =>
  some (!rv_5))).bind fun t_1 =>
  cond (t_1 || ((rv_2.2 != 0) && (rv_2.2 != 4)))
  (some false)
  (cond (rv.2 != 0)
  ((cond (((rv.2 == 4) && (rv_2.2 == rv.2)) && ((wr ((wr ((rv.1.length : Int) + rv_1.1)) + rv_2.1)) == 0)) ((remontoirlaw08_works).bind fun rv_6 =>
  some rv_6) (some false)).bind fun t_2 =>
  some t_2)
  (cond (((rv_2.2 == 0) && (((decide (rv_2.1 < (wr (2 * rv_1.1)))) || (decide (rv_2.1 > (sv.Machines.length : Int)))) || (decide ((rv.1.length : Int) > 0)))) || ((rv_2.2 != 0) && (rv_2.1 != 0)))
  (some false)
  (cond ((sv.Machines.length : Int) == 1)
  ((remontoirref00_Alike rv.1 ([0])).bind fun rv_7 =>
  (cond rv_7 ((remontoirlaw08_works).bind fun rv_8 =>
  some rv_8) (some false)).bind fun t_3 =>
  some t_3)
  ((remontoirref00_Rest machine (sv.Machines.length : Int)).bind fun rv_9 =>
  (remontoirlaw08_without sv rv_9).bind fun rv_10 =>
  (spare_Fewest rv_10).bind fun rv_11 =>
  (remontoirref00_Find rv.1 rv_9).bind fun rv_12 =>
  (cond (((rv_11.2 == 4) == (decide (rv_12 ≥ 0))) && ((rv_11.2 == 0) || (rv_11.2 == 4))) ((remontoirlaw08_works).bind fun rv_13 =>
  some rv_13) (some false)).bind fun t_4 =>
  some t_4)))))
theorem remontoirlaw08_SpareNeeds_ok {w0 : World} {D0 : Stab} (hD : D0.on w0) (sv : SpareStore) (machine : Int) {p : Option Addr} {c : Nat} (hs : SRc C_SpareMachine D0 sv.Machines p c) (hG : Glob D0) (out : Bool) (h : remontoirlaw08_SpareNeeds sv machine = some out) : Calls Tryd.prog 12 [.agg #[.int .i64 sv.Hours, .int .i64 sv.Gap, .slice p sv.Machines.length c], .int .i64 machine].toArray w0 (RetP D0 w0 (.bool out)) := by
 refine enter _ 162 Tryd.func12 rfl Tryd.ntmps12 rfl fun a hF => ?_
 replace hF : Frm 162 [] [(0, .agg #[.int .i64 sv.Hours, .int .i64 sv.Gap, .slice p sv.Machines.length c]), (1, .int .i64 machine)] a := hF
 have hS := St.start hD
 unfold remontoirlaw08_SpareNeeds at h
 refine seq ?_
 refine region ?_
 refine O.box (cs := [.int .i64 sv.Hours, .int .i64 sv.Gap, .slice p sv.Machines.length c]) 1 hF rfl rfl hS rfl fun b a w hF hS => ?_
 refine step hF (Y.assign hF rfl) rfl fun a hF => ?_
 refine nil (then_n ?_)
 refine seq ?_
 refine region ?_
 refine step hF (Y.loadNL 1 sz_24 hF rfl hS rfl rfl rfl) rfl fun a hF => ?_
 obtain ⟨rv, hx, h⟩ := bind_some h
 refine O.callS (us := [.agg #[.int .i64 sv.Hours, .int .i64 sv.Gap, .slice p sv.Machines.length c]]) ca_27 hF hS (spare_Need_ok hS.stab sv hs hG rv hx) rfl rfl fun v Dv a w hR hlev hF hS => ?_
 replace hs := hs.mono hlev
 replace hG := hG.mono hlev
 obtain ⟨p_1, c_1, rfl, hs_1⟩ := hR
 refine step hF (Y.move hF rfl) rfl fun a hF => ?_
 refine step hF (Y.extract hF rfl rfl) rfl fun a hF => ?_
 refine step hF (Y.extract hF rfl rfl) rfl fun a hF => ?_
 refine step hF (Y.assign hF rfl) rfl fun a hF => ?_
 refine step hF (Y.assign hF rfl) rfl fun a hF => ?_
 refine nil (then_n ?_)
 refine seq ?_
 refine region ?_
 refine step hF (Y.loadNL 1 sz_24 hF rfl hS rfl rfl rfl) rfl fun a hF => ?_
 obtain ⟨rv_1, hx_1, h⟩ := bind_some h
 refine O.callP (us := [.agg #[.int .i64 sv.Hours, .int .i64 sv.Gap, .slice p sv.Machines.length c]]) ca_22 hF hS (spare_Fewest_ok hS.stab sv hs hG rv_1 hx_1) rfl rfl fun a w hF hS => ?_
 refine step hF (Y.move hF rfl) rfl fun a hF => ?_
 refine step hF (Y.extract hF rfl rfl) rfl fun a hF => ?_
 refine step hF (Y.extract hF rfl rfl) rfl fun a hF => ?_
 refine step hF (Y.assign hF rfl) rfl fun a hF => ?_
 refine step hF (Y.assign hF rfl) rfl fun a hF => ?_
 refine nil (then_n ?_)
 refine seq ?_
 refine region ?_
 refine step hF (Y.loadNL 1 sz_24 hF rfl hS rfl rfl rfl) rfl fun a hF => ?_
 obtain ⟨rv_2, hx_2, h⟩ := bind_some h
 refine O.callP (us := [.agg #[.int .i64 sv.Hours, .int .i64 sv.Gap, .slice p sv.Machines.length c]]) ca_30 hF hS (spare_Pair_ok hS.stab sv hs hG rv_2 hx_2) rfl rfl fun a w hF hS => ?_
 refine step hF (Y.move hF rfl) rfl fun a hF => ?_
 refine step hF (Y.extract hF rfl rfl) rfl fun a hF => ?_
 refine step hF (Y.extract hF rfl rfl) rfl fun a hF => ?_
 refine step hF (Y.assign hF rfl) rfl fun a hF => ?_
 refine step hF (Y.assign hF rfl) rfl fun a hF => ?_
 refine nil (then_n ?_)
 refine seq ?_
 refine seq ?_
 refine region ?_
 refine step hF (Y.loadNL 1 sz_24 hF rfl hS rfl rfl rfl) rfl fun a hF => ?_
 obtain ⟨rv_3, hx_3, h⟩ := bind_some h
 refine O.callP (us := [.agg #[.int .i64 sv.Hours, .int .i64 sv.Gap, .slice p sv.Machines.length c]]) ca_34 hF hS (remontoirlaw08_sound_ok hS.stab sv hs rv_3 hx_3) rfl rfl fun a w hF hS => ?_
 refine step hF (Y.not hF rfl) rfl fun a hF => ?_
 refine nil (then_n ?_)
 refine cond_b hF rfl (fun hbv => ?_) (fun hbv => ?_)
 ·replace h := cond_t h hbv
  refine seq ?_
  refine region ?_
  refine step hF (Y.move hF rfl) rfl fun a hF => ?_
  refine step hF (Y.eql hF rfl rfl) rfl fun a hF => ?_
  refine step hF (Y.move hF rfl) rfl fun a hF => ?_
  refine join (N := 162) (rs := []) (w0 := w0) (D0 := D0) 4 (us := [(1, .int .i64 machine), (2, .pointer (some ⟨b, 0, none⟩)), (4, .bool false), (5, .slice p_1 rv.1.length c_1), (6, .int .i64 rv.2), (7, .int .i64 rv_1.1), (8, .int .i64 rv_1.2), (9, .int .i64 rv_2.1), (10, .int .i64 rv_2.2), (36, .bool ((rv.2 == 80) && (rv_1.2 == rv.2)))]) (ms := [(1, .cells b [.int .i64 sv.Hours, .int .i64 sv.Gap, .slice p sv.Machines.length c] 24)]) (D' := Dv) ?_ ?_
  ·rcases bcases (rv.2 == 80) with hbv_1 | hbv_1
   ·-- true
    refine guard_on hF rfl rfl hbv_1 ?_
    refine step hF (Y.move hF rfl) rfl fun a hF => ?_
    refine guard_on hF rfl rfl hbv_1 ?_
    refine step hF (Y.move hF rfl) rfl fun a hF => ?_
    refine guard_on hF rfl rfl hbv_1 ?_
    refine step hF (Y.eql hF rfl rfl) rfl fun a hF => ?_
    refine step hF (Y.pick_t hF rfl hbv_1 rfl) rfl fun a hF => ?_
    exact nil (then_n ⟨hF.weak ⟨rfl, rfl, rfl, rfl, rfl, rfl, rfl, rfl, rfl, (by rw [hbv_1]; rfl), trivial⟩, hS.weak ⟨rfl, trivial⟩⟩)
   ·-- false
    refine guard_off hF rfl rfl hbv_1 rfl fun a hF => ?_
    refine guard_off hF rfl rfl hbv_1 rfl fun a hF => ?_
    refine guard_off hF rfl rfl hbv_1 rfl fun a hF => ?_
    refine step hF (Y.pick_f hF rfl hbv_1 rfl) rfl fun a hF => ?_
    exact nil (then_n ⟨hF.weak ⟨rfl, rfl, rfl, rfl, rfl, rfl, rfl, rfl, rfl, (by rw [hbv_1]; rfl), trivial⟩, hS.weak ⟨rfl, trivial⟩⟩)
  intro a w hF hS
  refine step hF (Y.move hF rfl) rfl fun a hF => ?_
  refine join (N := 162) (rs := []) (w0 := w0) (D0 := D0) 4 (us := [(1, .int .i64 machine), (2, .pointer (some ⟨b, 0, none⟩)), (4, .bool false), (5, .slice p_1 rv.1.length c_1), (6, .int .i64 rv.2), (7, .int .i64 rv_1.1), (8, .int .i64 rv_1.2), (9, .int .i64 rv_2.1), (10, .int .i64 rv_2.2), (41, .bool (((rv.2 == 80) && (rv_1.2 == rv.2)) && (rv_2.2 == rv.2)))]) (ms := [(1, .cells b [.int .i64 sv.Hours, .int .i64 sv.Gap, .slice p sv.Machines.length c] 24)]) (D' := Dv) ?_ ?_
  ·rcases bcases ((rv.2 == 80) && (rv_1.2 == rv.2)) with hbv_2 | hbv_2
   ·-- true
    refine guard_on hF rfl rfl hbv_2 ?_
    refine step hF (Y.move hF rfl) rfl fun a hF => ?_
    refine guard_on hF rfl rfl hbv_2 ?_
    refine step hF (Y.move hF rfl) rfl fun a hF => ?_
    refine guard_on hF rfl rfl hbv_2 ?_
    refine step hF (Y.eql hF rfl rfl) rfl fun a hF => ?_
    refine step hF (Y.pick_t hF rfl hbv_2 rfl) rfl fun a hF => ?_
    exact nil (then_n ⟨hF.weak ⟨rfl, rfl, rfl, rfl, rfl, rfl, rfl, rfl, rfl, (by rw [hbv_2]; rfl), trivial⟩, hS.weak ⟨rfl, trivial⟩⟩)
   ·-- false
    refine guard_off hF rfl rfl hbv_2 rfl fun a hF => ?_
    refine guard_off hF rfl rfl hbv_2 rfl fun a hF => ?_
    refine guard_off hF rfl rfl hbv_2 rfl fun a hF => ?_
    refine step hF (Y.pick_f hF rfl hbv_2 rfl) rfl fun a hF => ?_
    exact nil (then_n ⟨hF.weak ⟨rfl, rfl, rfl, rfl, rfl, rfl, rfl, rfl, rfl, (by rw [hbv_2]; rfl), trivial⟩, hS.weak ⟨rfl, trivial⟩⟩)
  intro a w hF hS
  refine step hF (Y.move hF rfl) rfl fun a hF => ?_
  refine join (N := 162) (rs := []) (w0 := w0) (D0 := D0) 8 (us := [(1, .int .i64 machine), (2, .pointer (some ⟨b, 0, none⟩)), (4, .bool false), (5, .slice p_1 rv.1.length c_1), (6, .int .i64 rv.2), (7, .int .i64 rv_1.1), (8, .int .i64 rv_1.2), (9, .int .i64 rv_2.1), (10, .int .i64 rv_2.2), (50, .bool ((((rv.2 == 80) && (rv_1.2 == rv.2)) && (rv_2.2 == rv.2)) && ((wr ((wr ((rv.1.length : Int) + rv_1.1)) + rv_2.1)) == 0)))]) (ms := [(1, .cells b [.int .i64 sv.Hours, .int .i64 sv.Gap, .slice p sv.Machines.length c] 24)]) (D' := Dv) ?_ ?_
  ·rcases bcases (((rv.2 == 80) && (rv_1.2 == rv.2)) && (rv_2.2 == rv.2)) with hbv_3 | hbv_3
   ·-- true
    refine guard_on hF rfl rfl hbv_3 ?_
    refine step hF (Y.move hF rfl) rfl fun a hF => ?_
    refine guard_on hF rfl rfl hbv_3 ?_
    refine step hF (Y.lenSl u_39 hF rfl) rfl fun a hF => ?_
    refine guard_on hF rfl rfl hbv_3 ?_
    refine step hF (Y.move hF rfl) rfl fun a hF => ?_
    refine guard_on hF rfl rfl hbv_3 ?_
    refine step hF (Y.add hF rfl rfl) rfl fun a hF => ?_
    refine guard_on hF rfl rfl hbv_3 ?_
    refine step hF (Y.move hF rfl) rfl fun a hF => ?_
    refine guard_on hF rfl rfl hbv_3 ?_
    refine step hF (Y.add hF rfl rfl) rfl fun a hF => ?_
    refine guard_on hF rfl rfl hbv_3 ?_
    refine step hF (Y.eql hF rfl rfl) rfl fun a hF => ?_
    refine step hF (Y.pick_t hF rfl hbv_3 rfl) rfl fun a hF => ?_
    exact nil (then_n ⟨hF.weak ⟨rfl, rfl, rfl, rfl, rfl, rfl, rfl, rfl, rfl, (by rw [hbv_3]; rfl), trivial⟩, hS.weak ⟨rfl, trivial⟩⟩)
   ·-- false
    refine guard_off hF rfl rfl hbv_3 rfl fun a hF => ?_
    refine guard_off hF rfl rfl hbv_3 rfl fun a hF => ?_
    refine guard_off hF rfl rfl hbv_3 rfl fun a hF => ?_
    refine guard_off hF rfl rfl hbv_3 rfl fun a hF => ?_
    refine guard_off hF rfl rfl hbv_3 rfl fun a hF => ?_
    refine guard_off hF rfl rfl hbv_3 rfl fun a hF => ?_
    refine guard_off hF rfl rfl hbv_3 rfl fun a hF => ?_
    refine step hF (Y.pick_f hF rfl hbv_3 rfl) rfl fun a hF => ?_
    exact nil (then_n ⟨hF.weak ⟨rfl, rfl, rfl, rfl, rfl, rfl, rfl, rfl, rfl, (by rw [hbv_3]; rfl), trivial⟩, hS.weak ⟨rfl, trivial⟩⟩)
  intro a w hF hS
  refine step hF (Y.move hF rfl) rfl fun a hF => ?_
  obtain ⟨t, ht, h⟩ := bind_some h
  refine join (N := 162) (rs := []) (w0 := w0) (D0 := D0) 2 (us := [(1, .int .i64 machine), (2, .pointer (some ⟨b, 0, none⟩)), (4, .bool false), (5, .slice p_1 rv.1.length c_1), (6, .int .i64 rv.2), (7, .int .i64 rv_1.1), (8, .int .i64 rv_1.2), (9, .int .i64 rv_2.1), (10, .int .i64 rv_2.2), (53, .bool t)]) (ms := [(1, .cells b [.int .i64 sv.Hours, .int .i64 sv.Gap, .slice p sv.Machines.length c] 24)]) (D' := Dv) ?_ ?_
  ·rcases bcases ((((rv.2 == 80) && (rv_1.2 == rv.2)) && (rv_2.2 == rv.2)) && ((wr ((wr ((rv.1.length : Int) + rv_1.1)) + rv_2.1)) == 0)) with hbv_4 | hbv_4
   ·-- true
    replace h := cond_t ht hbv_4
    refine guard_on hF rfl rfl hbv_4 ?_
    obtain ⟨rv_4, hx_4, h⟩ := bind_some h
    refine O.callP (us := []) ca_21 hF hS (remontoirlaw08_works_ok hS.stab hG rv_4 hx_4) rfl rfl fun a w hF hS => ?_
    refine step hF (Y.pick_t hF rfl hbv_4 rfl) rfl fun a hF => ?_
    obtain rfl := some_inj h
    exact nil (then_n ⟨hF.weak ⟨rfl, rfl, rfl, rfl, rfl, rfl, rfl, rfl, rfl, rfl, trivial⟩, hS.weak ⟨rfl, trivial⟩⟩)
   ·-- false
    replace h := cond_f ht hbv_4
    refine guard_off hF rfl rfl hbv_4 rfl fun a hF => ?_
    refine step hF (Y.pick_f hF rfl hbv_4 rfl) rfl fun a hF => ?_
    obtain rfl := some_inj h
    exact nil (then_n ⟨hF.weak ⟨rfl, rfl, rfl, rfl, rfl, rfl, rfl, rfl, rfl, rfl, trivial⟩, hS.weak ⟨rfl, trivial⟩⟩)
  intro a w hF hS
  refine step hF (Y.assign hF rfl) rfl fun a hF => ?_
  refine nil (then_n ?_)
  refine ret_ (then_r ?_)
  obtain rfl := some_inj h
  exact leaveP Tryd.results12 hF hS (.cons (.tmp rfl) .nil) .nil rfl
 ·replace h := cond_f h hbv
  refine skip_ (then_n ?_)
  refine seq ?_
  refine seq ?_
  refine region ?_
  refine step hF (Y.move hF rfl) rfl fun a hF => ?_
  refine step hF (Y.move hF rfl) rfl fun a hF => ?_
  refine step hF (Y.neq hF rfl rfl) rfl fun a hF => ?_
  refine step hF (Y.move hF rfl) rfl fun a hF => ?_
  obtain ⟨t_1, ht_1, h⟩ := bind_some h
  refine join (N := 162) (rs := []) (w0 := w0) (D0 := D0) 7 (us := [(1, .int .i64 machine), (2, .pointer (some ⟨b, 0, none⟩)), (4, .bool false), (5, .slice p_1 rv.1.length c_1), (6, .int .i64 rv.2), (7, .int .i64 rv_1.1), (9, .int .i64 rv_2.1), (10, .int .i64 rv_2.2), (64, .bool t_1)]) (ms := [(1, .cells b [.int .i64 sv.Hours, .int .i64 sv.Gap, .slice p sv.Machines.length c] 24)]) (D' := Dv) ?_ ?_
  ·rcases bcases (rv.2 != rv_1.2) with hbv_5 | hbv_5
   ·-- true
    replace h := cond_t ht_1 hbv_5
    refine guard_off hF rfl rfl hbv_5 rfl fun a hF => ?_
    refine guard_off hF rfl rfl hbv_5 rfl fun a hF => ?_
    refine guard_off hF rfl rfl hbv_5 rfl fun a hF => ?_
    refine guard_off hF rfl rfl hbv_5 rfl fun a hF => ?_
    refine guard_off hF rfl rfl hbv_5 rfl fun a hF => ?_
    refine guard_off hF rfl rfl hbv_5 rfl fun a hF => ?_
    refine step hF (Y.pick_t hF rfl hbv_5 rfl) rfl fun a hF => ?_
    obtain rfl := some_inj h
    exact nil (then_n ⟨hF.weak ⟨rfl, rfl, rfl, rfl, rfl, rfl, rfl, rfl, rfl, trivial⟩, hS.weak ⟨rfl, trivial⟩⟩)
   ·-- false
    replace h := cond_f ht_1 hbv_5
    refine guard_on hF rfl rfl hbv_5 ?_
    refine step hF (Y.move hF rfl) rfl fun a hF => ?_
    refine guard_on hF rfl rfl hbv_5 ?_
    refine step hF (Y.fieldAddr fo_24_2 hF rfl) rfl fun a hF => ?_
    refine guard_on hF rfl rfl hbv_5 ?_
    refine step hF (Y.load1L 1 sz_22 hF rfl hS rfl rfl) rfl fun a hF => ?_
    refine guard_on hF rfl rfl hbv_5 ?_
    refine step hF (Y.lenSl u_22 hF rfl) rfl fun a hF => ?_
    refine guard_on hF rfl rfl hbv_5 ?_
    obtain ⟨rv_5, hx_5, h⟩ := bind_some h
    refine O.callP (us := [.slice p_1 rv.1.length c_1, .int .i64 (sv.Machines.length : Int)]) ca_43 hF hS (remontoirref00_Climbs_ok hS.stab rv.1 (sv.Machines.length : Int) hs_1 rv_5 hx_5) rfl rfl fun a w hF hS => ?_
    refine guard_on hF rfl rfl hbv_5 ?_
    refine step hF (Y.not hF rfl) rfl fun a hF => ?_
    refine step hF (Y.pick_f hF rfl hbv_5 rfl) rfl fun a hF => ?_
    obtain rfl := some_inj h
    exact nil (then_n ⟨hF.weak ⟨rfl, rfl, rfl, rfl, rfl, rfl, rfl, rfl, rfl, trivial⟩, hS.weak ⟨rfl, trivial⟩⟩)
  intro a w hF hS
  refine step hF (Y.move hF rfl) rfl fun a hF => ?_
  refine join (N := 162) (rs := []) (w0 := w0) (D0 := D0) 7 (us := [(1, .int .i64 machine), (2, .pointer (some ⟨b, 0, none⟩)), (4, .bool false), (5, .slice p_1 rv.1.length c_1), (6, .int .i64 rv.2), (7, .int .i64 rv_1.1), (9, .int .i64 rv_2.1), (10, .int .i64 rv_2.2), (72, .bool (t_1 || ((rv_2.2 != 0) && (rv_2.2 != 4))))]) (ms := [(1, .cells b [.int .i64 sv.Hours, .int .i64 sv.Gap, .slice p sv.Machines.length c] 24)]) (D' := Dv) ?_ ?_
  ·rcases bcases t_1 with hbv_6 | hbv_6
   ·-- true
    refine guard_off hF rfl rfl hbv_6 rfl fun a hF => ?_
    refine guard_off hF rfl rfl hbv_6 rfl fun a hF => ?_
    refine guard_off hF rfl rfl hbv_6 rfl fun a hF => ?_
    refine guard_offu hF rfl rfl rfl fun a hF => ?_
    refine guard_offu hF rfl rfl rfl fun a hF => ?_
    refine guard_off hF rfl rfl hbv_6 rfl fun a hF => ?_
    refine step hF (Y.pick_t hF rfl hbv_6 rfl) rfl fun a hF => ?_
    exact nil (then_n ⟨hF.weak ⟨rfl, rfl, rfl, rfl, rfl, rfl, rfl, rfl, (by rw [hbv_6]; rfl), trivial⟩, hS.weak ⟨rfl, trivial⟩⟩)
   ·-- false
    refine guard_on hF rfl rfl hbv_6 ?_
    refine step hF (Y.move hF rfl) rfl fun a hF => ?_
    refine guard_on hF rfl rfl hbv_6 ?_
    refine step hF (Y.neq hF rfl rfl) rfl fun a hF => ?_
    refine guard_on hF rfl rfl hbv_6 ?_
    refine step hF (Y.move hF rfl) rfl fun a hF => ?_
    refine join (N := 162) (rs := []) (w0 := w0) (D0 := D0) 3 (us := [(1, .int .i64 machine), (2, .pointer (some ⟨b, 0, none⟩)), (4, .bool false), (5, .slice p_1 rv.1.length c_1), (6, .int .i64 rv.2), (7, .int .i64 rv_1.1), (9, .int .i64 rv_2.1), (10, .int .i64 rv_2.2), (65, .bool t_1), (71, .bool ((rv_2.2 != 0) && (rv_2.2 != 4)))]) (ms := [(1, .cells b [.int .i64 sv.Hours, .int .i64 sv.Gap, .slice p sv.Machines.length c] 24)]) (D' := Dv) ?_ ?_
    ·rcases bcases (rv_2.2 != 0) with hbv_7 | hbv_7
     ·-- true
      refine guard_on hF rfl rfl hbv_7 ?_
      refine step hF (Y.move hF rfl) rfl fun a hF => ?_
      refine guard_on hF rfl rfl hbv_7 ?_
      refine step hF (Y.neq hF rfl rfl) rfl fun a hF => ?_
      refine guard_on hF rfl rfl hbv_6 ?_
      refine step hF (Y.pick_t hF rfl hbv_7 rfl) rfl fun a hF => ?_
      exact nil (then_n ⟨hF.weak ⟨rfl, rfl, rfl, rfl, rfl, rfl, rfl, rfl, rfl, (by rw [hbv_7]; rfl), trivial⟩, hS.weak ⟨rfl, trivial⟩⟩)
     ·-- false
      refine guard_off hF rfl rfl hbv_7 rfl fun a hF => ?_
      refine guard_off hF rfl rfl hbv_7 rfl fun a hF => ?_
      refine guard_on hF rfl rfl hbv_6 ?_
      refine step hF (Y.pick_f hF rfl hbv_7 rfl) rfl fun a hF => ?_
      exact nil (then_n ⟨hF.weak ⟨rfl, rfl, rfl, rfl, rfl, rfl, rfl, rfl, rfl, (by rw [hbv_7]; rfl), trivial⟩, hS.weak ⟨rfl, trivial⟩⟩)
    intro a w hF hS
    refine step hF (Y.pick_f hF rfl hbv_6 rfl) rfl fun a hF => ?_
    exact nil (then_n ⟨hF.weak ⟨rfl, rfl, rfl, rfl, rfl, rfl, rfl, rfl, (by rw [hbv_6]; rfl), trivial⟩, hS.weak ⟨rfl, trivial⟩⟩)
  intro a w hF hS
  refine nil (then_n ?_)
  refine cond_b hF rfl (fun hbv_8 => ?_) (fun hbv_8 => ?_)
  ·replace h := cond_t h hbv_8
   refine seq ?_
   refine region ?_
   refine step hF (Y.assign hF rfl) rfl fun a hF => ?_
   refine nil (then_n ?_)
   refine ret_ (then_r ?_)
   obtain rfl := some_inj h
   exact leaveP Tryd.results12 hF hS (.cons (.tmp rfl) .nil) .nil rfl
  ·replace h := cond_f h hbv_8
   refine skip_ (then_n ?_)
   refine seq ?_
   refine seq ?_
   refine region ?_
   refine step hF (Y.move hF rfl) rfl fun a hF => ?_
   refine step hF (Y.neq hF rfl rfl) rfl fun a hF => ?_
   refine nil (then_n ?_)
   refine cond_b hF rfl (fun hbv_9 => ?_) (fun hbv_9 => ?_)
   ·replace h := cond_t h hbv_9
    refine seq ?_
    refine region ?_
    refine step hF (Y.move hF rfl) rfl fun a hF => ?_
    refine step hF (Y.eql hF rfl rfl) rfl fun a hF => ?_
    refine step hF (Y.move hF rfl) rfl fun a hF => ?_
    refine join (N := 162) (rs := []) (w0 := w0) (D0 := D0) 4 (us := [(1, .int .i64 machine), (2, .pointer (some ⟨b, 0, none⟩)), (4, .bool false), (5, .slice p_1 rv.1.length c_1), (6, .int .i64 rv.2), (7, .int .i64 rv_1.1), (9, .int .i64 rv_2.1), (10, .int .i64 rv_2.2), (81, .bool ((rv.2 == 4) && (rv_2.2 == rv.2)))]) (ms := [(1, .cells b [.int .i64 sv.Hours, .int .i64 sv.Gap, .slice p sv.Machines.length c] 24)]) (D' := Dv) ?_ ?_
    ·rcases bcases (rv.2 == 4) with hbv_10 | hbv_10
     ·-- true
      refine guard_on hF rfl rfl hbv_10 ?_
      refine step hF (Y.move hF rfl) rfl fun a hF => ?_
      refine guard_on hF rfl rfl hbv_10 ?_
      refine step hF (Y.move hF rfl) rfl fun a hF => ?_
      refine guard_on hF rfl rfl hbv_10 ?_
      refine step hF (Y.eql hF rfl rfl) rfl fun a hF => ?_
      refine step hF (Y.pick_t hF rfl hbv_10 rfl) rfl fun a hF => ?_
      exact nil (then_n ⟨hF.weak ⟨rfl, rfl, rfl, rfl, rfl, rfl, rfl, rfl, (by rw [hbv_10]; rfl), trivial⟩, hS.weak ⟨rfl, trivial⟩⟩)
     ·-- false
      refine guard_off hF rfl rfl hbv_10 rfl fun a hF => ?_
      refine guard_off hF rfl rfl hbv_10 rfl fun a hF => ?_
      refine guard_off hF rfl rfl hbv_10 rfl fun a hF => ?_
      refine step hF (Y.pick_f hF rfl hbv_10 rfl) rfl fun a hF => ?_
      exact nil (then_n ⟨hF.weak ⟨rfl, rfl, rfl, rfl, rfl, rfl, rfl, rfl, (by rw [hbv_10]; rfl), trivial⟩, hS.weak ⟨rfl, trivial⟩⟩)
    intro a w hF hS
    refine step hF (Y.move hF rfl) rfl fun a hF => ?_
    refine join (N := 162) (rs := []) (w0 := w0) (D0 := D0) 8 (us := [(1, .int .i64 machine), (2, .pointer (some ⟨b, 0, none⟩)), (4, .bool false), (5, .slice p_1 rv.1.length c_1), (6, .int .i64 rv.2), (7, .int .i64 rv_1.1), (9, .int .i64 rv_2.1), (10, .int .i64 rv_2.2), (90, .bool (((rv.2 == 4) && (rv_2.2 == rv.2)) && ((wr ((wr ((rv.1.length : Int) + rv_1.1)) + rv_2.1)) == 0)))]) (ms := [(1, .cells b [.int .i64 sv.Hours, .int .i64 sv.Gap, .slice p sv.Machines.length c] 24)]) (D' := Dv) ?_ ?_
    ·rcases bcases ((rv.2 == 4) && (rv_2.2 == rv.2)) with hbv_11 | hbv_11
     ·-- true
      refine guard_on hF rfl rfl hbv_11 ?_
      refine step hF (Y.move hF rfl) rfl fun a hF => ?_
      refine guard_on hF rfl rfl hbv_11 ?_
      refine step hF (Y.lenSl u_39 hF rfl) rfl fun a hF => ?_
      refine guard_on hF rfl rfl hbv_11 ?_
      refine step hF (Y.move hF rfl) rfl fun a hF => ?_
      refine guard_on hF rfl rfl hbv_11 ?_
      refine step hF (Y.add hF rfl rfl) rfl fun a hF => ?_
      refine guard_on hF rfl rfl hbv_11 ?_
      refine step hF (Y.move hF rfl) rfl fun a hF => ?_
      refine guard_on hF rfl rfl hbv_11 ?_
      refine step hF (Y.add hF rfl rfl) rfl fun a hF => ?_
      refine guard_on hF rfl rfl hbv_11 ?_
      refine step hF (Y.eql hF rfl rfl) rfl fun a hF => ?_
      refine step hF (Y.pick_t hF rfl hbv_11 rfl) rfl fun a hF => ?_
      exact nil (then_n ⟨hF.weak ⟨rfl, rfl, rfl, rfl, rfl, rfl, rfl, rfl, (by rw [hbv_11]; rfl), trivial⟩, hS.weak ⟨rfl, trivial⟩⟩)
     ·-- false
      refine guard_off hF rfl rfl hbv_11 rfl fun a hF => ?_
      refine guard_off hF rfl rfl hbv_11 rfl fun a hF => ?_
      refine guard_off hF rfl rfl hbv_11 rfl fun a hF => ?_
      refine guard_off hF rfl rfl hbv_11 rfl fun a hF => ?_
      refine guard_off hF rfl rfl hbv_11 rfl fun a hF => ?_
      refine guard_off hF rfl rfl hbv_11 rfl fun a hF => ?_
      refine guard_off hF rfl rfl hbv_11 rfl fun a hF => ?_
      refine step hF (Y.pick_f hF rfl hbv_11 rfl) rfl fun a hF => ?_
      exact nil (then_n ⟨hF.weak ⟨rfl, rfl, rfl, rfl, rfl, rfl, rfl, rfl, (by rw [hbv_11]; rfl), trivial⟩, hS.weak ⟨rfl, trivial⟩⟩)
    intro a w hF hS
    refine step hF (Y.move hF rfl) rfl fun a hF => ?_
    obtain ⟨t_2, ht_2, h⟩ := bind_some h
    refine join (N := 162) (rs := []) (w0 := w0) (D0 := D0) 2 (us := [(1, .int .i64 machine), (2, .pointer (some ⟨b, 0, none⟩)), (4, .bool false), (5, .slice p_1 rv.1.length c_1), (6, .int .i64 rv.2), (7, .int .i64 rv_1.1), (9, .int .i64 rv_2.1), (10, .int .i64 rv_2.2), (93, .bool t_2)]) (ms := [(1, .cells b [.int .i64 sv.Hours, .int .i64 sv.Gap, .slice p sv.Machines.length c] 24)]) (D' := Dv) ?_ ?_
    ·rcases bcases (((rv.2 == 4) && (rv_2.2 == rv.2)) && ((wr ((wr ((rv.1.length : Int) + rv_1.1)) + rv_2.1)) == 0)) with hbv_12 | hbv_12
     ·-- true
      replace h := cond_t ht_2 hbv_12
      refine guard_on hF rfl rfl hbv_12 ?_
      obtain ⟨rv_6, hx_6, h⟩ := bind_some h
      refine O.callP (us := []) ca_21 hF hS (remontoirlaw08_works_ok hS.stab hG rv_6 hx_6) rfl rfl fun a w hF hS => ?_
      refine step hF (Y.pick_t hF rfl hbv_12 rfl) rfl fun a hF => ?_
      obtain rfl := some_inj h
      exact nil (then_n ⟨hF.weak ⟨rfl, rfl, rfl, rfl, rfl, rfl, rfl, rfl, rfl, trivial⟩, hS.weak ⟨rfl, trivial⟩⟩)
     ·-- false
      replace h := cond_f ht_2 hbv_12
      refine guard_off hF rfl rfl hbv_12 rfl fun a hF => ?_
      refine step hF (Y.pick_f hF rfl hbv_12 rfl) rfl fun a hF => ?_
      obtain rfl := some_inj h
      exact nil (then_n ⟨hF.weak ⟨rfl, rfl, rfl, rfl, rfl, rfl, rfl, rfl, rfl, trivial⟩, hS.weak ⟨rfl, trivial⟩⟩)
    intro a w hF hS
    refine step hF (Y.assign hF rfl) rfl fun a hF => ?_
    refine nil (then_n ?_)
    refine ret_ (then_r ?_)
    obtain rfl := some_inj h
    exact leaveP Tryd.results12 hF hS (.cons (.tmp rfl) .nil) .nil rfl
   ·replace h := cond_f h hbv_9
    refine skip_ (then_n ?_)
    refine seq ?_
    refine seq ?_
    refine region ?_
    refine step hF (Y.move hF rfl) rfl fun a hF => ?_
    refine step hF (Y.eql hF rfl rfl) rfl fun a hF => ?_
    refine step hF (Y.move hF rfl) rfl fun a hF => ?_
    refine join (N := 162) (rs := []) (w0 := w0) (D0 := D0) 17 (us := [(1, .int .i64 machine), (2, .pointer (some ⟨b, 0, none⟩)), (4, .bool false), (5, .slice p_1 rv.1.length c_1), (6, .int .i64 rv.2), (9, .int .i64 rv_2.1), (10, .int .i64 rv_2.2), (113, .bool ((rv_2.2 == 0) && (((decide (rv_2.1 < (wr (2 * rv_1.1)))) || (decide (rv_2.1 > (sv.Machines.length : Int)))) || (decide ((rv.1.length : Int) > 0)))))]) (ms := [(1, .cells b [.int .i64 sv.Hours, .int .i64 sv.Gap, .slice p sv.Machines.length c] 24)]) (D' := Dv) ?_ ?_
    ·rcases bcases (rv_2.2 == 0) with hbv_13 | hbv_13
     ·-- true
      refine guard_on hF rfl rfl hbv_13 ?_
      refine step hF (Y.move hF rfl) rfl fun a hF => ?_
      refine guard_on hF rfl rfl hbv_13 ?_
      refine step hF (Y.move hF rfl) rfl fun a hF => ?_
      refine guard_on hF rfl rfl hbv_13 ?_
      refine step hF (Y.mul hF rfl rfl) rfl fun a hF => ?_
      refine guard_on hF rfl rfl hbv_13 ?_
      refine step hF (Y.lss hF rfl rfl) rfl fun a hF => ?_
      refine guard_on hF rfl rfl hbv_13 ?_
      refine step hF (Y.move hF rfl) rfl fun a hF => ?_
      refine join (N := 162) (rs := []) (w0 := w0) (D0 := D0) 6 (us := [(1, .int .i64 machine), (2, .pointer (some ⟨b, 0, none⟩)), (4, .bool false), (5, .slice p_1 rv.1.length c_1), (6, .int .i64 rv.2), (9, .int .i64 rv_2.1), (10, .int .i64 rv_2.2), (96, .bool (rv_2.2 == 0)), (107, .bool ((decide (rv_2.1 < (wr (2 * rv_1.1)))) || (decide (rv_2.1 > (sv.Machines.length : Int)))))]) (ms := [(1, .cells b [.int .i64 sv.Hours, .int .i64 sv.Gap, .slice p sv.Machines.length c] 24)]) (D' := Dv) ?_ ?_
      ·rcases bcases (decide (rv_2.1 < (wr (2 * rv_1.1)))) with hbv_14 | hbv_14
       ·-- true
        refine guard_off hF rfl rfl hbv_14 rfl fun a hF => ?_
        refine guard_off hF rfl rfl hbv_14 rfl fun a hF => ?_
        refine guard_off hF rfl rfl hbv_14 rfl fun a hF => ?_
        refine guard_off hF rfl rfl hbv_14 rfl fun a hF => ?_
        refine guard_off hF rfl rfl hbv_14 rfl fun a hF => ?_
        refine guard_on hF rfl rfl hbv_13 ?_
        refine step hF (Y.pick_t hF rfl hbv_14 rfl) rfl fun a hF => ?_
        exact nil (then_n ⟨hF.weak ⟨rfl, rfl, rfl, rfl, rfl, rfl, rfl, rfl, (by rw [hbv_14]; rfl), trivial⟩, hS.weak ⟨rfl, trivial⟩⟩)
       ·-- false
        refine guard_on hF rfl rfl hbv_14 ?_
        refine step hF (Y.move hF rfl) rfl fun a hF => ?_
        refine guard_on hF rfl rfl hbv_14 ?_
        refine step hF (Y.fieldAddr fo_24_2 hF rfl) rfl fun a hF => ?_
        refine guard_on hF rfl rfl hbv_14 ?_
        refine step hF (Y.load1L 1 sz_22 hF rfl hS rfl rfl) rfl fun a hF => ?_
        refine guard_on hF rfl rfl hbv_14 ?_
        refine step hF (Y.lenSl u_22 hF rfl) rfl fun a hF => ?_
        refine guard_on hF rfl rfl hbv_14 ?_
        refine step hF (Y.gtr hF rfl rfl) rfl fun a hF => ?_
        refine guard_on hF rfl rfl hbv_13 ?_
        refine step hF (Y.pick_f hF rfl hbv_14 rfl) rfl fun a hF => ?_
        exact nil (then_n ⟨hF.weak ⟨rfl, rfl, rfl, rfl, rfl, rfl, rfl, rfl, (by rw [hbv_14]; rfl), trivial⟩, hS.weak ⟨rfl, trivial⟩⟩)
      intro a w hF hS
      refine guard_on hF rfl rfl hbv_13 ?_
      refine step hF (Y.move hF rfl) rfl fun a hF => ?_
      refine join (N := 162) (rs := []) (w0 := w0) (D0 := D0) 4 (us := [(1, .int .i64 machine), (2, .pointer (some ⟨b, 0, none⟩)), (4, .bool false), (5, .slice p_1 rv.1.length c_1), (6, .int .i64 rv.2), (9, .int .i64 rv_2.1), (10, .int .i64 rv_2.2), (96, .bool (rv_2.2 == 0)), (112, .bool (((decide (rv_2.1 < (wr (2 * rv_1.1)))) || (decide (rv_2.1 > (sv.Machines.length : Int)))) || (decide ((rv.1.length : Int) > 0))))]) (ms := [(1, .cells b [.int .i64 sv.Hours, .int .i64 sv.Gap, .slice p sv.Machines.length c] 24)]) (D' := Dv) ?_ ?_
      ·rcases bcases ((decide (rv_2.1 < (wr (2 * rv_1.1)))) || (decide (rv_2.1 > (sv.Machines.length : Int)))) with hbv_15 | hbv_15
       ·-- true
        refine guard_off hF rfl rfl hbv_15 rfl fun a hF => ?_
        refine guard_off hF rfl rfl hbv_15 rfl fun a hF => ?_
        refine guard_off hF rfl rfl hbv_15 rfl fun a hF => ?_
        refine guard_on hF rfl rfl hbv_13 ?_
        refine step hF (Y.pick_t hF rfl hbv_15 rfl) rfl fun a hF => ?_
        exact nil (then_n ⟨hF.weak ⟨rfl, rfl, rfl, rfl, rfl, rfl, rfl, rfl, (by rw [hbv_15]; rfl), trivial⟩, hS.weak ⟨rfl, trivial⟩⟩)
       ·-- false
        refine guard_on hF rfl rfl hbv_15 ?_
        refine step hF (Y.move hF rfl) rfl fun a hF => ?_
        refine guard_on hF rfl rfl hbv_15 ?_
        refine step hF (Y.lenSl u_39 hF rfl) rfl fun a hF => ?_
        refine guard_on hF rfl rfl hbv_15 ?_
        refine step hF (Y.gtr hF rfl rfl) rfl fun a hF => ?_
        refine guard_on hF rfl rfl hbv_13 ?_
        refine step hF (Y.pick_f hF rfl hbv_15 rfl) rfl fun a hF => ?_
        exact nil (then_n ⟨hF.weak ⟨rfl, rfl, rfl, rfl, rfl, rfl, rfl, rfl, (by rw [hbv_15]; rfl), trivial⟩, hS.weak ⟨rfl, trivial⟩⟩)
      intro a w hF hS
      refine step hF (Y.pick_t hF rfl hbv_13 rfl) rfl fun a hF => ?_
      exact nil (then_n ⟨hF.weak ⟨rfl, rfl, rfl, rfl, rfl, rfl, rfl, (by rw [hbv_13]; rfl), trivial⟩, hS.weak ⟨rfl, trivial⟩⟩)
     ·-- false
      refine guard_off hF rfl rfl hbv_13 rfl fun a hF => ?_
      refine guard_off hF rfl rfl hbv_13 rfl fun a hF => ?_
      refine guard_off hF rfl rfl hbv_13 rfl fun a hF => ?_
      refine guard_off hF rfl rfl hbv_13 rfl fun a hF => ?_
      refine guard_off hF rfl rfl hbv_13 rfl fun a hF => ?_
      refine guard_offu hF rfl rfl rfl fun a hF => ?_
      refine guard_offu hF rfl rfl rfl fun a hF => ?_
      refine guard_offu hF rfl rfl rfl fun a hF => ?_
      refine guard_offu hF rfl rfl rfl fun a hF => ?_
      refine guard_offu hF rfl rfl rfl fun a hF => ?_
      refine guard_off hF rfl rfl hbv_13 rfl fun a hF => ?_
      refine guard_off hF rfl rfl hbv_13 rfl fun a hF => ?_
      refine guard_offu hF rfl rfl rfl fun a hF => ?_
      refine guard_offu hF rfl rfl rfl fun a hF => ?_
      refine guard_offu hF rfl rfl rfl fun a hF => ?_
      refine guard_off hF rfl rfl hbv_13 rfl fun a hF => ?_
      refine step hF (Y.pick_f hF rfl hbv_13 rfl) rfl fun a hF => ?_
      exact nil (then_n ⟨hF.weak ⟨rfl, rfl, rfl, rfl, rfl, rfl, rfl, (by rw [hbv_13]; rfl), trivial⟩, hS.weak ⟨rfl, trivial⟩⟩)
    intro a w hF hS
    refine step hF (Y.move hF rfl) rfl fun a hF => ?_
    refine join (N := 162) (rs := []) (w0 := w0) (D0 := D0) 7 (us := [(1, .int .i64 machine), (2, .pointer (some ⟨b, 0, none⟩)), (4, .bool false), (5, .slice p_1 rv.1.length c_1), (6, .int .i64 rv.2), (121, .bool (((rv_2.2 == 0) && (((decide (rv_2.1 < (wr (2 * rv_1.1)))) || (decide (rv_2.1 > (sv.Machines.length : Int)))) || (decide ((rv.1.length : Int) > 0)))) || ((rv_2.2 != 0) && (rv_2.1 != 0))))]) (ms := [(1, .cells b [.int .i64 sv.Hours, .int .i64 sv.Gap, .slice p sv.Machines.length c] 24)]) (D' := Dv) ?_ ?_
    ·rcases bcases ((rv_2.2 == 0) && (((decide (rv_2.1 < (wr (2 * rv_1.1)))) || (decide (rv_2.1 > (sv.Machines.length : Int)))) || (decide ((rv.1.length : Int) > 0)))) with hbv_16 | hbv_16
     ·-- true
      refine guard_off hF rfl rfl hbv_16 rfl fun a hF => ?_
      refine guard_off hF rfl rfl hbv_16 rfl fun a hF => ?_
      refine guard_off hF rfl rfl hbv_16 rfl fun a hF => ?_
      refine guard_offu hF rfl rfl rfl fun a hF => ?_
      refine guard_offu hF rfl rfl rfl fun a hF => ?_
      refine guard_off hF rfl rfl hbv_16 rfl fun a hF => ?_
      refine step hF (Y.pick_t hF rfl hbv_16 rfl) rfl fun a hF => ?_
      exact nil (then_n ⟨hF.weak ⟨rfl, rfl, rfl, rfl, rfl, (by rw [hbv_16]; rfl), trivial⟩, hS.weak ⟨rfl, trivial⟩⟩)
     ·-- false
      refine guard_on hF rfl rfl hbv_16 ?_
      refine step hF (Y.move hF rfl) rfl fun a hF => ?_
      refine guard_on hF rfl rfl hbv_16 ?_
      refine step hF (Y.neq hF rfl rfl) rfl fun a hF => ?_
      refine guard_on hF rfl rfl hbv_16 ?_
      refine step hF (Y.move hF rfl) rfl fun a hF => ?_
      refine join (N := 162) (rs := []) (w0 := w0) (D0 := D0) 3 (us := [(1, .int .i64 machine), (2, .pointer (some ⟨b, 0, none⟩)), (4, .bool false), (5, .slice p_1 rv.1.length c_1), (6, .int .i64 rv.2), (114, .bool ((rv_2.2 == 0) && (((decide (rv_2.1 < (wr (2 * rv_1.1)))) || (decide (rv_2.1 > (sv.Machines.length : Int)))) || (decide ((rv.1.length : Int) > 0))))), (120, .bool ((rv_2.2 != 0) && (rv_2.1 != 0)))]) (ms := [(1, .cells b [.int .i64 sv.Hours, .int .i64 sv.Gap, .slice p sv.Machines.length c] 24)]) (D' := Dv) ?_ ?_
      ·rcases bcases (rv_2.2 != 0) with hbv_17 | hbv_17
       ·-- true
        refine guard_on hF rfl rfl hbv_17 ?_
        refine step hF (Y.move hF rfl) rfl fun a hF => ?_
        refine guard_on hF rfl rfl hbv_17 ?_
        refine step hF (Y.neq hF rfl rfl) rfl fun a hF => ?_
        refine guard_on hF rfl rfl hbv_16 ?_
        refine step hF (Y.pick_t hF rfl hbv_17 rfl) rfl fun a hF => ?_
        exact nil (then_n ⟨hF.weak ⟨rfl, rfl, rfl, rfl, rfl, rfl, (by rw [hbv_17]; rfl), trivial⟩, hS.weak ⟨rfl, trivial⟩⟩)
       ·-- false
        refine guard_off hF rfl rfl hbv_17 rfl fun a hF => ?_
        refine guard_off hF rfl rfl hbv_17 rfl fun a hF => ?_
        refine guard_on hF rfl rfl hbv_16 ?_
        refine step hF (Y.pick_f hF rfl hbv_17 rfl) rfl fun a hF => ?_
        exact nil (then_n ⟨hF.weak ⟨rfl, rfl, rfl, rfl, rfl, rfl, (by rw [hbv_17]; rfl), trivial⟩, hS.weak ⟨rfl, trivial⟩⟩)
      intro a w hF hS
      refine step hF (Y.pick_f hF rfl hbv_16 rfl) rfl fun a hF => ?_
      exact nil (then_n ⟨hF.weak ⟨rfl, rfl, rfl, rfl, rfl, (by rw [hbv_16]; rfl), trivial⟩, hS.weak ⟨rfl, trivial⟩⟩)
    intro a w hF hS
    refine nil (then_n ?_)
    refine cond_b hF rfl (fun hbv_18 => ?_) (fun hbv_18 => ?_)
    ·replace h := cond_t h hbv_18
     refine seq ?_
     refine region ?_
     refine step hF (Y.assign hF rfl) rfl fun a hF => ?_
     refine nil (then_n ?_)
     refine ret_ (then_r ?_)
     obtain rfl := some_inj h
     exact leaveP Tryd.results12 hF hS (.cons (.tmp rfl) .nil) .nil rfl
    ·replace h := cond_f h hbv_18
     refine skip_ (then_n ?_)
     refine seq ?_
     refine seq ?_
     refine region ?_
     refine step hF (Y.fieldAddr fo_24_2 hF rfl) rfl fun a hF => ?_
     refine step hF (Y.load1L 1 sz_22 hF rfl hS rfl rfl) rfl fun a hF => ?_
     refine step hF (Y.lenSl u_22 hF rfl) rfl fun a hF => ?_
     refine step hF (Y.eql hF rfl rfl) rfl fun a hF => ?_
     refine nil (then_n ?_)
     refine cond_b hF rfl (fun hbv_19 => ?_) (fun hbv_19 => ?_)
     ·replace h := cond_t h hbv_19
      refine seq ?_
      refine region ?_
      refine step hF (Y.move hF rfl) rfl fun a hF => ?_
      have hr : Reps C_int Dv [0] [.int .i64 0] := Reps.cons (C := C_int) (x := 0) (c := [.int .i64 0]) (r := []) rfl (Reps.nil)
      refine O.buildSlice (E := 3) (C := C_int) (xs := [0]) (cs := [.int .i64 0]) (us := [.int .i64 0]) (parts := [(0, (.const (.int .i64 0)))]) 2 hF hS rfl (by kernel_rfl) hr rfl rfl rfl fun p_2 c_2 a w hF hS => ?_
      obtain ⟨Dv_1, hlev_1, hs_2, hS⟩ := hS.freezeC (i := 2) (xs := [0]) rfl hr
      replace hs := hs.mono hlev_1
      replace hG := hG.mono hlev_1
      replace hs_1 := hs_1.mono hlev_1
      replace hr := hr.mono hlev_1
      obtain ⟨rv_7, hx_7, h⟩ := bind_some h
      refine O.callP (us := [.slice p_1 rv.1.length c_1, .slice p_2 ([0]).length c_2]) ca_29 hF hS (remontoirref00_Alike_ok hS.stab rv.1 ([0]) hs_1 hs_2 rv_7 hx_7) rfl rfl fun a w hF hS => ?_
      refine step hF (Y.move hF rfl) rfl fun a hF => ?_
      obtain ⟨t_3, ht_3, h⟩ := bind_some h
      refine join (N := 162) (rs := []) (w0 := w0) (D0 := D0) 2 (us := [(1, .int .i64 machine), (2, .pointer (some ⟨b, 0, none⟩)), (4, .bool false), (5, .slice p_1 rv.1.length c_1), (6, .int .i64 rv.2), (131, .bool t_3)]) (ms := [(1, .cells b [.int .i64 sv.Hours, .int .i64 sv.Gap, .slice p sv.Machines.length c] 24)]) (D' := Dv_1) ?_ ?_
      ·rcases bcases rv_7 with hbv_20 | hbv_20
       ·-- true
        replace h := cond_t ht_3 hbv_20
        refine guard_on hF rfl rfl hbv_20 ?_
        obtain ⟨rv_8, hx_8, h⟩ := bind_some h
        refine O.callP (us := []) ca_21 hF hS (remontoirlaw08_works_ok hS.stab hG rv_8 hx_8) rfl rfl fun a w hF hS => ?_
        refine step hF (Y.pick_t hF rfl hbv_20 rfl) rfl fun a hF => ?_
        obtain rfl := some_inj h
        exact nil (then_n ⟨hF.weak ⟨rfl, rfl, rfl, rfl, rfl, rfl, trivial⟩, hS.weak ⟨rfl, trivial⟩⟩)
       ·-- false
        replace h := cond_f ht_3 hbv_20
        refine guard_off hF rfl rfl hbv_20 rfl fun a hF => ?_
        refine step hF (Y.pick_f hF rfl hbv_20 rfl) rfl fun a hF => ?_
        obtain rfl := some_inj h
        exact nil (then_n ⟨hF.weak ⟨rfl, rfl, rfl, rfl, rfl, rfl, trivial⟩, hS.weak ⟨rfl, trivial⟩⟩)
      intro a w hF hS
      refine step hF (Y.assign hF rfl) rfl fun a hF => ?_
      refine nil (then_n ?_)
      refine ret_ (then_r ?_)
      obtain rfl := some_inj h
      exact leaveP Tryd.results12 hF hS (.cons (.tmp rfl) .nil) .nil rfl
     ·replace h := cond_f h hbv_19
      refine skip_ (then_n ?_)
      refine seq ?_
      refine region ?_
      refine step hF (Y.move hF rfl) rfl fun a hF => ?_
      refine step hF (Y.fieldAddr fo_24_2 hF rfl) rfl fun a hF => ?_
      refine step hF (Y.load1L 1 sz_22 hF rfl hS rfl rfl) rfl fun a hF => ?_
      refine step hF (Y.lenSl u_22 hF rfl) rfl fun a hF => ?_
      obtain ⟨rv_9, hx_9, h⟩ := bind_some h
      refine O.callP (us := [.int .i64 machine, .int .i64 (sv.Machines.length : Int)]) ca_42 hF hS (remontoirref00_Rest_ok hS.stab machine (sv.Machines.length : Int) rv_9 hx_9) rfl rfl fun a w hF hS => ?_
      refine step hF (Y.assign hF rfl) rfl fun a hF => ?_
      refine nil (then_n ?_)
      refine seq ?_
      refine region ?_
      refine step hF (Y.loadNL 1 sz_24 hF rfl hS rfl rfl rfl) rfl fun a hF => ?_
      refine step hF (Y.move hF rfl) rfl fun a hF => ?_
      obtain ⟨rv_10, hx_10, h⟩ := bind_some h
      refine O.callS (us := [.agg #[.int .i64 sv.Hours, .int .i64 sv.Gap, .slice p sv.Machines.length c], .int .i64 rv_9]) ca_44 hF hS (remontoirlaw08_without_ok hS.stab sv rv_9 hs rv_10 hx_10) rfl rfl fun v_1 Dv_2 a w hR_1 hlev_2 hF hS => ?_
      replace hs := hs.mono hlev_2
      replace hG := hG.mono hlev_2
      replace hs_1 := hs_1.mono hlev_2
      obtain ⟨p_3, c_3, rfl, hs_3⟩ := hR_1
      obtain ⟨rv_11, hx_11, h⟩ := bind_some h
      refine O.callP (us := [.agg #[.int .i64 rv_10.Hours, .int .i64 rv_10.Gap, .slice p_3 rv_10.Machines.length c_3]]) ca_22 hF hS (spare_Fewest_ok hS.stab rv_10 hs_3 hG rv_11 hx_11) rfl rfl fun a w hF hS => ?_
      refine step hF (Y.move hF rfl) rfl fun a hF => ?_
      refine step hF (Y.extract hF rfl rfl) rfl fun a hF => ?_
      refine step hF (Y.extract hF rfl rfl) rfl fun a hF => ?_
      refine step hF (Y.assign hF rfl) rfl fun a hF => ?_
      refine nil (then_n ?_)
      refine seq ?_
      refine region ?_
      refine step hF (Y.move hF rfl) rfl fun a hF => ?_
      refine step hF (Y.eql hF rfl rfl) rfl fun a hF => ?_
      refine step hF (Y.move hF rfl) rfl fun a hF => ?_
      refine step hF (Y.move hF rfl) rfl fun a hF => ?_
      obtain ⟨rv_12, hx_12, h⟩ := bind_some h
      refine O.callP (us := [.slice p_1 rv.1.length c_1, .int .i64 rv_9]) ca_45 hF hS (remontoirref00_Find_ok hS.stab rv.1 rv_9 hs_1 rv_12 hx_12) rfl rfl fun a w hF hS => ?_
      refine step hF (Y.geq hF rfl rfl) rfl fun a hF => ?_
      refine step hF (Y.eqb u_4 hF rfl rfl) rfl fun a hF => ?_
      refine step hF (Y.move hF rfl) rfl fun a hF => ?_
      refine join (N := 162) (rs := []) (w0 := w0) (D0 := D0) 7 (us := [(4, .bool false), (158, .bool (((rv_11.2 == 4) == (decide (rv_12 ≥ 0))) && ((rv_11.2 == 0) || (rv_11.2 == 4))))]) (ms := [(1, .cells b [.int .i64 sv.Hours, .int .i64 sv.Gap, .slice p sv.Machines.length c] 24)]) (D' := Dv_2) ?_ ?_
      ·rcases bcases ((rv_11.2 == 4) == (decide (rv_12 ≥ 0))) with hbv_21 | hbv_21
       ·-- true
        refine guard_on hF rfl rfl hbv_21 ?_
        refine step hF (Y.move hF rfl) rfl fun a hF => ?_
        refine guard_on hF rfl rfl hbv_21 ?_
        refine step hF (Y.eql hF rfl rfl) rfl fun a hF => ?_
        refine guard_on hF rfl rfl hbv_21 ?_
        refine step hF (Y.move hF rfl) rfl fun a hF => ?_
        refine join (N := 162) (rs := []) (w0 := w0) (D0 := D0) 3 (us := [(4, .bool false), (151, .bool ((rv_11.2 == 4) == (decide (rv_12 ≥ 0)))), (157, .bool ((rv_11.2 == 0) || (rv_11.2 == 4)))]) (ms := [(1, .cells b [.int .i64 sv.Hours, .int .i64 sv.Gap, .slice p sv.Machines.length c] 24)]) (D' := Dv_2) ?_ ?_
        ·rcases bcases (rv_11.2 == 0) with hbv_22 | hbv_22
         ·-- true
          refine guard_off hF rfl rfl hbv_22 rfl fun a hF => ?_
          refine guard_off hF rfl rfl hbv_22 rfl fun a hF => ?_
          refine guard_on hF rfl rfl hbv_21 ?_
          refine step hF (Y.pick_t hF rfl hbv_22 rfl) rfl fun a hF => ?_
          exact nil (then_n ⟨hF.weak ⟨rfl, rfl, (by rw [hbv_22]; rfl), trivial⟩, hS.weak ⟨rfl, trivial⟩⟩)
         ·-- false
          refine guard_on hF rfl rfl hbv_22 ?_
          refine step hF (Y.move hF rfl) rfl fun a hF => ?_
          refine guard_on hF rfl rfl hbv_22 ?_
          refine step hF (Y.eql hF rfl rfl) rfl fun a hF => ?_
          refine guard_on hF rfl rfl hbv_21 ?_
          refine step hF (Y.pick_f hF rfl hbv_22 rfl) rfl fun a hF => ?_
          exact nil (then_n ⟨hF.weak ⟨rfl, rfl, (by rw [hbv_22]; rfl), trivial⟩, hS.weak ⟨rfl, trivial⟩⟩)
        intro a w hF hS
        refine step hF (Y.pick_t hF rfl hbv_21 rfl) rfl fun a hF => ?_
        exact nil (then_n ⟨hF.weak ⟨rfl, (by rw [hbv_21]; rfl), trivial⟩, hS.weak ⟨rfl, trivial⟩⟩)
       ·-- false
        refine guard_off hF rfl rfl hbv_21 rfl fun a hF => ?_
        refine guard_off hF rfl rfl hbv_21 rfl fun a hF => ?_
        refine guard_off hF rfl rfl hbv_21 rfl fun a hF => ?_
        refine guard_offu hF rfl rfl rfl fun a hF => ?_
        refine guard_offu hF rfl rfl rfl fun a hF => ?_
        refine guard_off hF rfl rfl hbv_21 rfl fun a hF => ?_
        refine step hF (Y.pick_f hF rfl hbv_21 rfl) rfl fun a hF => ?_
        exact nil (then_n ⟨hF.weak ⟨rfl, (by rw [hbv_21]; rfl), trivial⟩, hS.weak ⟨rfl, trivial⟩⟩)
      intro a w hF hS
      refine step hF (Y.move hF rfl) rfl fun a hF => ?_
      obtain ⟨t_4, ht_4, h⟩ := bind_some h
      refine join (N := 162) (rs := []) (w0 := w0) (D0 := D0) 2 (us := [(4, .bool false), (161, .bool t_4)]) (ms := [(1, .cells b [.int .i64 sv.Hours, .int .i64 sv.Gap, .slice p sv.Machines.length c] 24)]) (D' := Dv_2) ?_ ?_
      ·rcases bcases (((rv_11.2 == 4) == (decide (rv_12 ≥ 0))) && ((rv_11.2 == 0) || (rv_11.2 == 4))) with hbv_23 | hbv_23
       ·-- true
        replace h := cond_t ht_4 hbv_23
        refine guard_on hF rfl rfl hbv_23 ?_
        obtain ⟨rv_13, hx_13, h⟩ := bind_some h
        refine O.callP (us := []) ca_21 hF hS (remontoirlaw08_works_ok hS.stab hG rv_13 hx_13) rfl rfl fun a w hF hS => ?_
        refine step hF (Y.pick_t hF rfl hbv_23 rfl) rfl fun a hF => ?_
        obtain rfl := some_inj h
        exact nil (then_n ⟨hF.weak ⟨rfl, rfl, trivial⟩, hS.weak ⟨rfl, trivial⟩⟩)
       ·-- false
        replace h := cond_f ht_4 hbv_23
        refine guard_off hF rfl rfl hbv_23 rfl fun a hF => ?_
        refine step hF (Y.pick_f hF rfl hbv_23 rfl) rfl fun a hF => ?_
        obtain rfl := some_inj h
        exact nil (then_n ⟨hF.weak ⟨rfl, rfl, trivial⟩, hS.weak ⟨rfl, trivial⟩⟩)
      intro a w hF hS
      refine step hF (Y.assign hF rfl) rfl fun a hF => ?_
      refine nil (then_n ?_)
      refine ret_ ?_
      obtain rfl := some_inj h
      exact leaveP Tryd.results12 hF hS (.cons (.tmp rfl) .nil) .nil rfl

end Go.Proofs.YtidmdgjgpmeecaaDoor.Rt
