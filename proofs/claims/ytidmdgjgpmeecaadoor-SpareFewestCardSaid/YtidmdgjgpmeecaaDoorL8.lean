/- Walks of the functions of this seat: what each Go function comes to, as a Lean function, and the proof. A law. Under no conditions. -/
import Derived.Test.YtidmdgjgpmeecaaDoorWNZ
set_option linter.unusedVariables false
set_option linter.unusedSimpArgs false
set_option maxRecDepth 100000
set_option maxHeartbeats 4000000
namespace Go.Proofs.YtidmdgjgpmeecaaDoor.Rt
open Go Go.RowKit
noncomputable def remontoirlaw08_SpareFewest_k1 (v4_0 : Bool) : Option Bool :=
  (remontoirlaw08_works).bind fun rv_7 =>
  some rv_7
noncomputable def remontoirlaw08_SpareFewest (sv : SpareStore) (bits : (List Int)) : Option Bool :=
  (spare_Fewest sv).bind fun rv =>
  (spare_Reach sv).bind fun rv_1 =>
  (remontoirlaw08_sound sv).bind fun rv_2 =>
  cond (!rv_2)
  ((cond ((((rv.2 == 80) && (rv_1.2 == rv.2)) && (rv.1 == 0)) && (rv_1.1 == 0)) ((remontoirlaw08_works).bind fun rv_3 =>
  some rv_3) (some false)).bind fun t =>
  some t)
  ((cond (((rv_1.2 != 0) || (decide (rv_1.1 < 0))) || ((decide (rv_1.1 ≥ sv.Hours)) != (rv.2 == 0))) (some true) ((cond (rv.2 == 0) ((remontoirref00_Lies rv.1 1 (sv.Machines.length : Int)).bind fun rv_4 =>
  some (!rv_4)) (some false)).bind fun t_1 =>
  some t_1)).bind fun t_2 =>
  cond (t_2 || ((rv.2 != 0) && ((rv.2 != 4) || (rv.1 != 0))))
  (some false)
  ((remontoirlaw08_tried sv bits).bind fun rv_5 =>
  (spare_IsPlan sv rv_5).bind fun rv_6 =>
  cond ((rv_6.2 != 0) || (rv_6.1 && ((rv.2 != 0) || (decide ((rv_5.length : Int) < rv.1)))))
  (some false)
  ((remontoirref00_Lies rv_1.1 1 499).bind fun rv_8 =>
  cond rv_8
  ((spare_Fewest (SpareStore.mk rv_1.1 sv.Gap sv.Machines)).bind fun rv_9 =>
  (spare_Fewest (SpareStore.mk (wr (rv_1.1 + 1)) sv.Gap sv.Machines)).bind fun rv_10 =>
  cond ((rv_9.2 != 0) || (rv_10.2 != 4))
  (some false)
  (remontoirlaw08_SpareFewest_k1 false))
  (remontoirlaw08_SpareFewest_k1 false))))
theorem remontoirlaw08_SpareFewest_ok {w0 : World} {D0 : Stab} (hD : D0.on w0) (sv : SpareStore) (bits : (List Int)) {p : Option Addr} {c : Nat} {p_1 : Option Addr} {c_1 : Nat} (hs : SRc C_SpareMachine D0 sv.Machines p c) (hs_1 : SRc C_int D0 bits p_1 c_1) (hG : Glob D0) (out : Bool) (h : remontoirlaw08_SpareFewest sv bits = some out) : Calls Tryd.prog 8 [.agg #[.int .i64 sv.Hours, .int .i64 sv.Gap, .slice p sv.Machines.length c], .slice p_1 bits.length c_1].toArray w0 (RetP D0 w0 (.bool out)) := by
 refine enter _ 133 Tryd.func8 rfl Tryd.ntmps8 rfl fun a hF => ?_
 replace hF : Frm 133 [] [(0, .agg #[.int .i64 sv.Hours, .int .i64 sv.Gap, .slice p sv.Machines.length c]), (1, .slice p_1 bits.length c_1)] a := hF
 have hS := St.start hD
 unfold remontoirlaw08_SpareFewest at h
 refine seq ?_
 refine region ?_
 refine O.box (cs := [.int .i64 sv.Hours, .int .i64 sv.Gap, .slice p sv.Machines.length c]) 1 hF rfl rfl hS rfl fun b a w hF hS => ?_
 refine step hF (Y.assign hF rfl) rfl fun a hF => ?_
 refine nil (then_n ?_)
 refine seq ?_
 refine region ?_
 refine step hF (Y.loadNL 1 sz_24 hF rfl hS rfl rfl rfl) rfl fun a hF => ?_
 obtain ⟨rv, hx, h⟩ := bind_some h
 refine O.callP (us := [.agg #[.int .i64 sv.Hours, .int .i64 sv.Gap, .slice p sv.Machines.length c]]) ca_22 hF hS (spare_Fewest_ok hS.stab sv hs hG rv hx) rfl rfl fun a w hF hS => ?_
 refine step hF (Y.move hF rfl) rfl fun a hF => ?_
 refine step hF (Y.extract hF rfl rfl) rfl fun a hF => ?_
 refine step hF (Y.extract hF rfl rfl) rfl fun a hF => ?_
 refine step hF (Y.assign hF rfl) rfl fun a hF => ?_
 refine step hF (Y.assign hF rfl) rfl fun a hF => ?_
 refine nil (then_n ?_)
 refine seq ?_
 refine region ?_
 refine step hF (Y.loadNL 1 sz_24 hF rfl hS rfl rfl rfl) rfl fun a hF => ?_
 obtain ⟨rv_1, hx_1, h⟩ := bind_some h
 refine O.callP (us := [.agg #[.int .i64 sv.Hours, .int .i64 sv.Gap, .slice p sv.Machines.length c]]) ca_25 hF hS (spare_Reach_ok hS.stab sv hs hG rv_1 hx_1) rfl rfl fun a w hF hS => ?_
 refine step hF (Y.move hF rfl) rfl fun a hF => ?_
 refine step hF (Y.extract hF rfl rfl) rfl fun a hF => ?_
 refine step hF (Y.extract hF rfl rfl) rfl fun a hF => ?_
 refine step hF (Y.assign hF rfl) rfl fun a hF => ?_
 refine step hF (Y.assign hF rfl) rfl fun a hF => ?_
 refine nil (then_n ?_)
 refine seq ?_
 refine seq ?_
 refine region ?_
 refine step hF (Y.loadNL 1 sz_24 hF rfl hS rfl rfl rfl) rfl fun a hF => ?_
 obtain ⟨rv_2, hx_2, h⟩ := bind_some h
 refine O.callP (us := [.agg #[.int .i64 sv.Hours, .int .i64 sv.Gap, .slice p sv.Machines.length c]]) ca_34 hF hS (remontoirlaw08_sound_ok hS.stab sv hs rv_2 hx_2) rfl rfl fun a w hF hS => ?_
 refine step hF (Y.not hF rfl) rfl fun a hF => ?_
 refine nil (then_n ?_)
 refine cond_b hF rfl (fun hbv => ?_) (fun hbv => ?_)
 ·replace h := cond_t h hbv
  refine seq ?_
  refine region ?_
  refine step hF (Y.move hF rfl) rfl fun a hF => ?_
  refine step hF (Y.eql hF rfl rfl) rfl fun a hF => ?_
  refine step hF (Y.move hF rfl) rfl fun a hF => ?_
  refine join (N := 133) (rs := []) (w0 := w0) (D0 := D0) 4 (us := [(1, .slice p_1 bits.length c_1), (2, .pointer (some ⟨b, 0, none⟩)), (4, .bool false), (5, .int .i64 rv.1), (6, .int .i64 rv.2), (7, .int .i64 rv_1.1), (8, .int .i64 rv_1.2), (32, .bool ((rv.2 == 80) && (rv_1.2 == rv.2)))]) (ms := [(1, .cells b [.int .i64 sv.Hours, .int .i64 sv.Gap, .slice p sv.Machines.length c] 24)]) (D' := D0) ?_ ?_
  ·rcases bcases (rv.2 == 80) with hbv_1 | hbv_1
   ·-- true
    refine guard_on hF rfl rfl hbv_1 ?_
    refine step hF (Y.move hF rfl) rfl fun a hF => ?_
    refine guard_on hF rfl rfl hbv_1 ?_
    refine step hF (Y.move hF rfl) rfl fun a hF => ?_
    refine guard_on hF rfl rfl hbv_1 ?_
    refine step hF (Y.eql hF rfl rfl) rfl fun a hF => ?_
    refine step hF (Y.pick_t hF rfl hbv_1 rfl) rfl fun a hF => ?_
    exact nil (then_n ⟨hF.weak ⟨rfl, rfl, rfl, rfl, rfl, rfl, rfl, (by rw [hbv_1]; rfl), trivial⟩, hS.weak ⟨rfl, trivial⟩⟩)
   ·-- false
    refine guard_off hF rfl rfl hbv_1 rfl fun a hF => ?_
    refine guard_off hF rfl rfl hbv_1 rfl fun a hF => ?_
    refine guard_off hF rfl rfl hbv_1 rfl fun a hF => ?_
    refine step hF (Y.pick_f hF rfl hbv_1 rfl) rfl fun a hF => ?_
    exact nil (then_n ⟨hF.weak ⟨rfl, rfl, rfl, rfl, rfl, rfl, rfl, (by rw [hbv_1]; rfl), trivial⟩, hS.weak ⟨rfl, trivial⟩⟩)
  intro a w hF hS
  refine step hF (Y.move hF rfl) rfl fun a hF => ?_
  refine join (N := 133) (rs := []) (w0 := w0) (D0 := D0) 3 (us := [(1, .slice p_1 bits.length c_1), (2, .pointer (some ⟨b, 0, none⟩)), (4, .bool false), (5, .int .i64 rv.1), (6, .int .i64 rv.2), (7, .int .i64 rv_1.1), (8, .int .i64 rv_1.2), (36, .bool (((rv.2 == 80) && (rv_1.2 == rv.2)) && (rv.1 == 0)))]) (ms := [(1, .cells b [.int .i64 sv.Hours, .int .i64 sv.Gap, .slice p sv.Machines.length c] 24)]) (D' := D0) ?_ ?_
  ·rcases bcases ((rv.2 == 80) && (rv_1.2 == rv.2)) with hbv_2 | hbv_2
   ·-- true
    refine guard_on hF rfl rfl hbv_2 ?_
    refine step hF (Y.move hF rfl) rfl fun a hF => ?_
    refine guard_on hF rfl rfl hbv_2 ?_
    refine step hF (Y.eql hF rfl rfl) rfl fun a hF => ?_
    refine step hF (Y.pick_t hF rfl hbv_2 rfl) rfl fun a hF => ?_
    exact nil (then_n ⟨hF.weak ⟨rfl, rfl, rfl, rfl, rfl, rfl, rfl, (by rw [hbv_2]; rfl), trivial⟩, hS.weak ⟨rfl, trivial⟩⟩)
   ·-- false
    refine guard_off hF rfl rfl hbv_2 rfl fun a hF => ?_
    refine guard_off hF rfl rfl hbv_2 rfl fun a hF => ?_
    refine step hF (Y.pick_f hF rfl hbv_2 rfl) rfl fun a hF => ?_
    exact nil (then_n ⟨hF.weak ⟨rfl, rfl, rfl, rfl, rfl, rfl, rfl, (by rw [hbv_2]; rfl), trivial⟩, hS.weak ⟨rfl, trivial⟩⟩)
  intro a w hF hS
  refine step hF (Y.move hF rfl) rfl fun a hF => ?_
  refine join (N := 133) (rs := []) (w0 := w0) (D0 := D0) 3 (us := [(1, .slice p_1 bits.length c_1), (2, .pointer (some ⟨b, 0, none⟩)), (4, .bool false), (5, .int .i64 rv.1), (6, .int .i64 rv.2), (7, .int .i64 rv_1.1), (8, .int .i64 rv_1.2), (40, .bool ((((rv.2 == 80) && (rv_1.2 == rv.2)) && (rv.1 == 0)) && (rv_1.1 == 0)))]) (ms := [(1, .cells b [.int .i64 sv.Hours, .int .i64 sv.Gap, .slice p sv.Machines.length c] 24)]) (D' := D0) ?_ ?_
  ·rcases bcases (((rv.2 == 80) && (rv_1.2 == rv.2)) && (rv.1 == 0)) with hbv_3 | hbv_3
   ·-- true
    refine guard_on hF rfl rfl hbv_3 ?_
    refine step hF (Y.move hF rfl) rfl fun a hF => ?_
    refine guard_on hF rfl rfl hbv_3 ?_
    refine step hF (Y.eql hF rfl rfl) rfl fun a hF => ?_
    refine step hF (Y.pick_t hF rfl hbv_3 rfl) rfl fun a hF => ?_
    exact nil (then_n ⟨hF.weak ⟨rfl, rfl, rfl, rfl, rfl, rfl, rfl, (by rw [hbv_3]; rfl), trivial⟩, hS.weak ⟨rfl, trivial⟩⟩)
   ·-- false
    refine guard_off hF rfl rfl hbv_3 rfl fun a hF => ?_
    refine guard_off hF rfl rfl hbv_3 rfl fun a hF => ?_
    refine step hF (Y.pick_f hF rfl hbv_3 rfl) rfl fun a hF => ?_
    exact nil (then_n ⟨hF.weak ⟨rfl, rfl, rfl, rfl, rfl, rfl, rfl, (by rw [hbv_3]; rfl), trivial⟩, hS.weak ⟨rfl, trivial⟩⟩)
  intro a w hF hS
  refine step hF (Y.move hF rfl) rfl fun a hF => ?_
  obtain ⟨t, ht, h⟩ := bind_some h
  refine join (N := 133) (rs := []) (w0 := w0) (D0 := D0) 2 (us := [(1, .slice p_1 bits.length c_1), (2, .pointer (some ⟨b, 0, none⟩)), (4, .bool false), (5, .int .i64 rv.1), (6, .int .i64 rv.2), (7, .int .i64 rv_1.1), (8, .int .i64 rv_1.2), (43, .bool t)]) (ms := [(1, .cells b [.int .i64 sv.Hours, .int .i64 sv.Gap, .slice p sv.Machines.length c] 24)]) (D' := D0) ?_ ?_
  ·rcases bcases ((((rv.2 == 80) && (rv_1.2 == rv.2)) && (rv.1 == 0)) && (rv_1.1 == 0)) with hbv_4 | hbv_4
   ·-- true
    replace h := cond_t ht hbv_4
    refine guard_on hF rfl rfl hbv_4 ?_
    obtain ⟨rv_3, hx_3, h⟩ := bind_some h
    refine O.callP (us := []) ca_21 hF hS (remontoirlaw08_works_ok hS.stab hG rv_3 hx_3) rfl rfl fun a w hF hS => ?_
    refine step hF (Y.pick_t hF rfl hbv_4 rfl) rfl fun a hF => ?_
    obtain rfl := some_inj h
    exact nil (then_n ⟨hF.weak ⟨rfl, rfl, rfl, rfl, rfl, rfl, rfl, rfl, trivial⟩, hS.weak ⟨rfl, trivial⟩⟩)
   ·-- false
    replace h := cond_f ht hbv_4
    refine guard_off hF rfl rfl hbv_4 rfl fun a hF => ?_
    refine step hF (Y.pick_f hF rfl hbv_4 rfl) rfl fun a hF => ?_
    obtain rfl := some_inj h
    exact nil (then_n ⟨hF.weak ⟨rfl, rfl, rfl, rfl, rfl, rfl, rfl, rfl, trivial⟩, hS.weak ⟨rfl, trivial⟩⟩)
  intro a w hF hS
  refine step hF (Y.assign hF rfl) rfl fun a hF => ?_
  refine nil (then_n ?_)
  refine ret_ (then_r ?_)
  obtain rfl := some_inj h
  exact leaveP Tryd.results8 hF hS (.cons (.tmp rfl) .nil) .nil rfl
 ·replace h := cond_f h hbv
  refine skip_ (then_n ?_)
  refine seq ?_
  refine seq ?_
  refine region ?_
  refine step hF (Y.move hF rfl) rfl fun a hF => ?_
  refine step hF (Y.neq hF rfl rfl) rfl fun a hF => ?_
  refine step hF (Y.move hF rfl) rfl fun a hF => ?_
  refine join (N := 133) (rs := []) (w0 := w0) (D0 := D0) 3 (us := [(1, .slice p_1 bits.length c_1), (2, .pointer (some ⟨b, 0, none⟩)), (4, .bool false), (5, .int .i64 rv.1), (6, .int .i64 rv.2), (7, .int .i64 rv_1.1), (8, .int .i64 rv_1.2), (49, .bool ((rv_1.2 != 0) || (decide (rv_1.1 < 0))))]) (ms := [(1, .cells b [.int .i64 sv.Hours, .int .i64 sv.Gap, .slice p sv.Machines.length c] 24)]) (D' := D0) ?_ ?_
  ·rcases bcases (rv_1.2 != 0) with hbv_5 | hbv_5
   ·-- true
    refine guard_off hF rfl rfl hbv_5 rfl fun a hF => ?_
    refine guard_off hF rfl rfl hbv_5 rfl fun a hF => ?_
    refine step hF (Y.pick_t hF rfl hbv_5 rfl) rfl fun a hF => ?_
    exact nil (then_n ⟨hF.weak ⟨rfl, rfl, rfl, rfl, rfl, rfl, rfl, (by rw [hbv_5]; rfl), trivial⟩, hS.weak ⟨rfl, trivial⟩⟩)
   ·-- false
    refine guard_on hF rfl rfl hbv_5 ?_
    refine step hF (Y.move hF rfl) rfl fun a hF => ?_
    refine guard_on hF rfl rfl hbv_5 ?_
    refine step hF (Y.lss hF rfl rfl) rfl fun a hF => ?_
    refine step hF (Y.pick_f hF rfl hbv_5 rfl) rfl fun a hF => ?_
    exact nil (then_n ⟨hF.weak ⟨rfl, rfl, rfl, rfl, rfl, rfl, rfl, (by rw [hbv_5]; rfl), trivial⟩, hS.weak ⟨rfl, trivial⟩⟩)
  intro a w hF hS
  refine step hF (Y.move hF rfl) rfl fun a hF => ?_
  refine join (N := 133) (rs := []) (w0 := w0) (D0 := D0) 8 (us := [(1, .slice p_1 bits.length c_1), (2, .pointer (some ⟨b, 0, none⟩)), (4, .bool false), (5, .int .i64 rv.1), (6, .int .i64 rv.2), (7, .int .i64 rv_1.1), (8, .int .i64 rv_1.2), (58, .bool (((rv_1.2 != 0) || (decide (rv_1.1 < 0))) || ((decide (rv_1.1 ≥ sv.Hours)) != (rv.2 == 0))))]) (ms := [(1, .cells b [.int .i64 sv.Hours, .int .i64 sv.Gap, .slice p sv.Machines.length c] 24)]) (D' := D0) ?_ ?_
  ·rcases bcases ((rv_1.2 != 0) || (decide (rv_1.1 < 0))) with hbv_6 | hbv_6
   ·-- true
    refine guard_off hF rfl rfl hbv_6 rfl fun a hF => ?_
    refine guard_off hF rfl rfl hbv_6 rfl fun a hF => ?_
    refine guard_off hF rfl rfl hbv_6 rfl fun a hF => ?_
    refine guard_off hF rfl rfl hbv_6 rfl fun a hF => ?_
    refine guard_off hF rfl rfl hbv_6 rfl fun a hF => ?_
    refine guard_off hF rfl rfl hbv_6 rfl fun a hF => ?_
    refine guard_off hF rfl rfl hbv_6 rfl fun a hF => ?_
    refine step hF (Y.pick_t hF rfl hbv_6 rfl) rfl fun a hF => ?_
    exact nil (then_n ⟨hF.weak ⟨rfl, rfl, rfl, rfl, rfl, rfl, rfl, (by rw [hbv_6]; rfl), trivial⟩, hS.weak ⟨rfl, trivial⟩⟩)
   ·-- false
    refine guard_on hF rfl rfl hbv_6 ?_
    refine step hF (Y.move hF rfl) rfl fun a hF => ?_
    refine guard_on hF rfl rfl hbv_6 ?_
    refine step hF (Y.fieldAddr fo_24_0 hF rfl) rfl fun a hF => ?_
    refine guard_on hF rfl rfl hbv_6 ?_
    refine step hF (Y.load1L 1 sz_3 hF rfl hS rfl rfl) rfl fun a hF => ?_
    refine guard_on hF rfl rfl hbv_6 ?_
    refine step hF (Y.geq hF rfl rfl) rfl fun a hF => ?_
    refine guard_on hF rfl rfl hbv_6 ?_
    refine step hF (Y.move hF rfl) rfl fun a hF => ?_
    refine guard_on hF rfl rfl hbv_6 ?_
    refine step hF (Y.eql hF rfl rfl) rfl fun a hF => ?_
    refine guard_on hF rfl rfl hbv_6 ?_
    refine step hF (Y.neb u_4 hF rfl rfl) rfl fun a hF => ?_
    refine step hF (Y.pick_f hF rfl hbv_6 rfl) rfl fun a hF => ?_
    exact nil (then_n ⟨hF.weak ⟨rfl, rfl, rfl, rfl, rfl, rfl, rfl, (by rw [hbv_6]; rfl), trivial⟩, hS.weak ⟨rfl, trivial⟩⟩)
  intro a w hF hS
  refine step hF (Y.move hF rfl) rfl fun a hF => ?_
  obtain ⟨t_2, ht_2, h⟩ := bind_some h
  refine join (N := 133) (rs := []) (w0 := w0) (D0 := D0) 11 (us := [(1, .slice p_1 bits.length c_1), (2, .pointer (some ⟨b, 0, none⟩)), (4, .bool false), (5, .int .i64 rv.1), (6, .int .i64 rv.2), (7, .int .i64 rv_1.1), (8, .int .i64 rv_1.2), (70, .bool t_2)]) (ms := [(1, .cells b [.int .i64 sv.Hours, .int .i64 sv.Gap, .slice p sv.Machines.length c] 24)]) (D' := D0) ?_ ?_
  ·rcases bcases (((rv_1.2 != 0) || (decide (rv_1.1 < 0))) || ((decide (rv_1.1 ≥ sv.Hours)) != (rv.2 == 0))) with hbv_7 | hbv_7
   ·-- true
    replace h := cond_t ht_2 hbv_7
    refine guard_off hF rfl rfl hbv_7 rfl fun a hF => ?_
    refine guard_off hF rfl rfl hbv_7 rfl fun a hF => ?_
    refine guard_off hF rfl rfl hbv_7 rfl fun a hF => ?_
    refine guard_offu hF rfl rfl rfl fun a hF => ?_
    refine guard_offu hF rfl rfl rfl fun a hF => ?_
    refine guard_offu hF rfl rfl rfl fun a hF => ?_
    refine guard_offu hF rfl rfl rfl fun a hF => ?_
    refine guard_offu hF rfl rfl rfl fun a hF => ?_
    refine guard_offu hF rfl rfl rfl fun a hF => ?_
    refine guard_off hF rfl rfl hbv_7 rfl fun a hF => ?_
    refine step hF (Y.pick_t hF rfl hbv_7 rfl) rfl fun a hF => ?_
    obtain rfl := some_inj h
    exact nil (then_n ⟨hF.weak ⟨rfl, rfl, rfl, rfl, rfl, rfl, rfl, rfl, trivial⟩, hS.weak ⟨rfl, trivial⟩⟩)
   ·-- false
    replace h := cond_f ht_2 hbv_7
    refine guard_on hF rfl rfl hbv_7 ?_
    refine step hF (Y.move hF rfl) rfl fun a hF => ?_
    refine guard_on hF rfl rfl hbv_7 ?_
    refine step hF (Y.eql hF rfl rfl) rfl fun a hF => ?_
    refine guard_on hF rfl rfl hbv_7 ?_
    refine step hF (Y.move hF rfl) rfl fun a hF => ?_
    obtain ⟨t_1, ht_1, h⟩ := bind_some h
    refine join (N := 133) (rs := []) (w0 := w0) (D0 := D0) 7 (us := [(1, .slice p_1 bits.length c_1), (2, .pointer (some ⟨b, 0, none⟩)), (4, .bool false), (5, .int .i64 rv.1), (6, .int .i64 rv.2), (7, .int .i64 rv_1.1), (8, .int .i64 rv_1.2), (59, .bool (((rv_1.2 != 0) || (decide (rv_1.1 < 0))) || ((decide (rv_1.1 ≥ sv.Hours)) != (rv.2 == 0)))), (69, .bool t_1)]) (ms := [(1, .cells b [.int .i64 sv.Hours, .int .i64 sv.Gap, .slice p sv.Machines.length c] 24)]) (D' := D0) ?_ ?_
    ·rcases bcases (rv.2 == 0) with hbv_8 | hbv_8
     ·-- true
      replace h := cond_t ht_1 hbv_8
      refine guard_on hF rfl rfl hbv_8 ?_
      refine step hF (Y.move hF rfl) rfl fun a hF => ?_
      refine guard_on hF rfl rfl hbv_8 ?_
      refine step hF (Y.fieldAddr fo_24_2 hF rfl) rfl fun a hF => ?_
      refine guard_on hF rfl rfl hbv_8 ?_
      refine step hF (Y.load1L 1 sz_22 hF rfl hS rfl rfl) rfl fun a hF => ?_
      refine guard_on hF rfl rfl hbv_8 ?_
      refine step hF (Y.lenSl u_22 hF rfl) rfl fun a hF => ?_
      refine guard_on hF rfl rfl hbv_8 ?_
      obtain ⟨rv_4, hx_4, h⟩ := bind_some h
      refine O.callP (us := [.int .i64 rv.1, .int .i64 1, .int .i64 (sv.Machines.length : Int)]) ca_35 hF hS (remontoirref00_Lies_ok hS.stab rv.1 1 (sv.Machines.length : Int) rv_4 hx_4) rfl rfl fun a w hF hS => ?_
      refine guard_on hF rfl rfl hbv_8 ?_
      refine step hF (Y.not hF rfl) rfl fun a hF => ?_
      refine guard_on hF rfl rfl hbv_7 ?_
      refine step hF (Y.pick_t hF rfl hbv_8 rfl) rfl fun a hF => ?_
      obtain rfl := some_inj h
      exact nil (then_n ⟨hF.weak ⟨rfl, rfl, rfl, rfl, rfl, rfl, rfl, rfl, rfl, trivial⟩, hS.weak ⟨rfl, trivial⟩⟩)
     ·-- false
      replace h := cond_f ht_1 hbv_8
      refine guard_off hF rfl rfl hbv_8 rfl fun a hF => ?_
      refine guard_off hF rfl rfl hbv_8 rfl fun a hF => ?_
      refine guard_off hF rfl rfl hbv_8 rfl fun a hF => ?_
      refine guard_off hF rfl rfl hbv_8 rfl fun a hF => ?_
      refine guard_off hF rfl rfl hbv_8 rfl fun a hF => ?_
      refine guard_off hF rfl rfl hbv_8 rfl fun a hF => ?_
      refine guard_on hF rfl rfl hbv_7 ?_
      refine step hF (Y.pick_f hF rfl hbv_8 rfl) rfl fun a hF => ?_
      obtain rfl := some_inj h
      exact nil (then_n ⟨hF.weak ⟨rfl, rfl, rfl, rfl, rfl, rfl, rfl, rfl, rfl, trivial⟩, hS.weak ⟨rfl, trivial⟩⟩)
    intro a w hF hS
    refine step hF (Y.pick_f hF rfl hbv_7 rfl) rfl fun a hF => ?_
    obtain rfl := some_inj h
    exact nil (then_n ⟨hF.weak ⟨rfl, rfl, rfl, rfl, rfl, rfl, rfl, rfl, trivial⟩, hS.weak ⟨rfl, trivial⟩⟩)
  intro a w hF hS
  refine step hF (Y.move hF rfl) rfl fun a hF => ?_
  refine join (N := 133) (rs := []) (w0 := w0) (D0 := D0) 11 (us := [(1, .slice p_1 bits.length c_1), (2, .pointer (some ⟨b, 0, none⟩)), (4, .bool false), (5, .int .i64 rv.1), (6, .int .i64 rv.2), (7, .int .i64 rv_1.1), (8, .int .i64 rv_1.2), (82, .bool (t_2 || ((rv.2 != 0) && ((rv.2 != 4) || (rv.1 != 0)))))]) (ms := [(1, .cells b [.int .i64 sv.Hours, .int .i64 sv.Gap, .slice p sv.Machines.length c] 24)]) (D' := D0) ?_ ?_
  ·rcases bcases t_2 with hbv_9 | hbv_9
   ·-- true
    refine guard_off hF rfl rfl hbv_9 rfl fun a hF => ?_
    refine guard_off hF rfl rfl hbv_9 rfl fun a hF => ?_
    refine guard_off hF rfl rfl hbv_9 rfl fun a hF => ?_
    refine guard_offu hF rfl rfl rfl fun a hF => ?_
    refine guard_offu hF rfl rfl rfl fun a hF => ?_
    refine guard_offu hF rfl rfl rfl fun a hF => ?_
    refine guard_offu hF rfl rfl rfl fun a hF => ?_
    refine guard_offu hF rfl rfl rfl fun a hF => ?_
    refine guard_offu hF rfl rfl rfl fun a hF => ?_
    refine guard_off hF rfl rfl hbv_9 rfl fun a hF => ?_
    refine step hF (Y.pick_t hF rfl hbv_9 rfl) rfl fun a hF => ?_
    exact nil (then_n ⟨hF.weak ⟨rfl, rfl, rfl, rfl, rfl, rfl, rfl, (by rw [hbv_9]; rfl), trivial⟩, hS.weak ⟨rfl, trivial⟩⟩)
   ·-- false
    refine guard_on hF rfl rfl hbv_9 ?_
    refine step hF (Y.move hF rfl) rfl fun a hF => ?_
    refine guard_on hF rfl rfl hbv_9 ?_
    refine step hF (Y.neq hF rfl rfl) rfl fun a hF => ?_
    refine guard_on hF rfl rfl hbv_9 ?_
    refine step hF (Y.move hF rfl) rfl fun a hF => ?_
    refine join (N := 133) (rs := []) (w0 := w0) (D0 := D0) 7 (us := [(1, .slice p_1 bits.length c_1), (2, .pointer (some ⟨b, 0, none⟩)), (4, .bool false), (5, .int .i64 rv.1), (6, .int .i64 rv.2), (7, .int .i64 rv_1.1), (8, .int .i64 rv_1.2), (71, .bool t_2), (81, .bool ((rv.2 != 0) && ((rv.2 != 4) || (rv.1 != 0))))]) (ms := [(1, .cells b [.int .i64 sv.Hours, .int .i64 sv.Gap, .slice p sv.Machines.length c] 24)]) (D' := D0) ?_ ?_
    ·rcases bcases (rv.2 != 0) with hbv_10 | hbv_10
     ·-- true
      refine guard_on hF rfl rfl hbv_10 ?_
      refine step hF (Y.move hF rfl) rfl fun a hF => ?_
      refine guard_on hF rfl rfl hbv_10 ?_
      refine step hF (Y.neq hF rfl rfl) rfl fun a hF => ?_
      refine guard_on hF rfl rfl hbv_10 ?_
      refine step hF (Y.move hF rfl) rfl fun a hF => ?_
      refine join (N := 133) (rs := []) (w0 := w0) (D0 := D0) 3 (us := [(1, .slice p_1 bits.length c_1), (2, .pointer (some ⟨b, 0, none⟩)), (4, .bool false), (5, .int .i64 rv.1), (6, .int .i64 rv.2), (7, .int .i64 rv_1.1), (8, .int .i64 rv_1.2), (71, .bool t_2), (74, .bool (rv.2 != 0)), (80, .bool ((rv.2 != 4) || (rv.1 != 0)))]) (ms := [(1, .cells b [.int .i64 sv.Hours, .int .i64 sv.Gap, .slice p sv.Machines.length c] 24)]) (D' := D0) ?_ ?_
      ·rcases bcases (rv.2 != 4) with hbv_11 | hbv_11
       ·-- true
        refine guard_off hF rfl rfl hbv_11 rfl fun a hF => ?_
        refine guard_off hF rfl rfl hbv_11 rfl fun a hF => ?_
        refine guard_on hF rfl rfl hbv_10 ?_
        refine step hF (Y.pick_t hF rfl hbv_11 rfl) rfl fun a hF => ?_
        exact nil (then_n ⟨hF.weak ⟨rfl, rfl, rfl, rfl, rfl, rfl, rfl, rfl, rfl, (by rw [hbv_11]; rfl), trivial⟩, hS.weak ⟨rfl, trivial⟩⟩)
       ·-- false
        refine guard_on hF rfl rfl hbv_11 ?_
        refine step hF (Y.move hF rfl) rfl fun a hF => ?_
        refine guard_on hF rfl rfl hbv_11 ?_
        refine step hF (Y.neq hF rfl rfl) rfl fun a hF => ?_
        refine guard_on hF rfl rfl hbv_10 ?_
        refine step hF (Y.pick_f hF rfl hbv_11 rfl) rfl fun a hF => ?_
        exact nil (then_n ⟨hF.weak ⟨rfl, rfl, rfl, rfl, rfl, rfl, rfl, rfl, rfl, (by rw [hbv_11]; rfl), trivial⟩, hS.weak ⟨rfl, trivial⟩⟩)
      intro a w hF hS
      refine guard_on hF rfl rfl hbv_9 ?_
      refine step hF (Y.pick_t hF rfl hbv_10 rfl) rfl fun a hF => ?_
      exact nil (then_n ⟨hF.weak ⟨rfl, rfl, rfl, rfl, rfl, rfl, rfl, rfl, (by rw [hbv_10]; rfl), trivial⟩, hS.weak ⟨rfl, trivial⟩⟩)
     ·-- false
      refine guard_off hF rfl rfl hbv_10 rfl fun a hF => ?_
      refine guard_off hF rfl rfl hbv_10 rfl fun a hF => ?_
      refine guard_off hF rfl rfl hbv_10 rfl fun a hF => ?_
      refine guard_offu hF rfl rfl rfl fun a hF => ?_
      refine guard_offu hF rfl rfl rfl fun a hF => ?_
      refine guard_off hF rfl rfl hbv_10 rfl fun a hF => ?_
      refine guard_on hF rfl rfl hbv_9 ?_
      refine step hF (Y.pick_f hF rfl hbv_10 rfl) rfl fun a hF => ?_
      exact nil (then_n ⟨hF.weak ⟨rfl, rfl, rfl, rfl, rfl, rfl, rfl, rfl, (by rw [hbv_10]; rfl), trivial⟩, hS.weak ⟨rfl, trivial⟩⟩)
    intro a w hF hS
    refine step hF (Y.pick_f hF rfl hbv_9 rfl) rfl fun a hF => ?_
    exact nil (then_n ⟨hF.weak ⟨rfl, rfl, rfl, rfl, rfl, rfl, rfl, (by rw [hbv_9]; rfl), trivial⟩, hS.weak ⟨rfl, trivial⟩⟩)
  intro a w hF hS
  refine nil (then_n ?_)
  refine cond_b hF rfl (fun hbv_12 => ?_) (fun hbv_12 => ?_)
  ·replace h := cond_t h hbv_12
   refine seq ?_
   refine region ?_
   refine step hF (Y.assign hF rfl) rfl fun a hF => ?_
   refine nil (then_n ?_)
   refine ret_ (then_r ?_)
   obtain rfl := some_inj h
   exact leaveP Tryd.results8 hF hS (.cons (.tmp rfl) .nil) .nil rfl
  ·replace h := cond_f h hbv_12
   refine skip_ (then_n ?_)
   refine seq ?_
   refine region ?_
   refine step hF (Y.loadNL 1 sz_24 hF rfl hS rfl rfl rfl) rfl fun a hF => ?_
   refine step hF (Y.move hF rfl) rfl fun a hF => ?_
   obtain ⟨rv_5, hx_5, h⟩ := bind_some h
   refine O.callS (us := [.agg #[.int .i64 sv.Hours, .int .i64 sv.Gap, .slice p sv.Machines.length c], .slice p_1 bits.length c_1]) ca_41 hF hS (remontoirlaw08_tried_ok hS.stab sv bits hs hs_1 rv_5 hx_5) rfl rfl fun v Dv a w hR hlev hF hS => ?_
   replace hs := hs.mono hlev
   replace hs_1 := hs_1.mono hlev
   replace hG := hG.mono hlev
   obtain ⟨p_2, c_2, rfl, hs_2⟩ := hR
   refine step hF (Y.assign hF rfl) rfl fun a hF => ?_
   refine nil (then_n ?_)
   refine seq ?_
   refine region ?_
   refine step hF (Y.loadNL 1 sz_24 hF rfl hS rfl rfl rfl) rfl fun a hF => ?_
   refine step hF (Y.move hF rfl) rfl fun a hF => ?_
   obtain ⟨rv_6, hx_6, h⟩ := bind_some h
   refine O.callP (us := [.agg #[.int .i64 sv.Hours, .int .i64 sv.Gap, .slice p sv.Machines.length c], .slice p_2 rv_5.length c_2]) ca_19 hF hS (spare_IsPlan_ok hS.stab sv rv_5 hs hs_2 rv_6 hx_6) rfl rfl fun a w hF hS => ?_
   refine step hF (Y.move hF rfl) rfl fun a hF => ?_
   refine step hF (Y.extract hF rfl rfl) rfl fun a hF => ?_
   refine step hF (Y.extract hF rfl rfl) rfl fun a hF => ?_
   refine step hF (Y.assign hF rfl) rfl fun a hF => ?_
   refine step hF (Y.assign hF rfl) rfl fun a hF => ?_
   refine nil (then_n ?_)
   refine seq ?_
   refine seq ?_
   refine region ?_
   refine step hF (Y.move hF rfl) rfl fun a hF => ?_
   refine step hF (Y.neq hF rfl rfl) rfl fun a hF => ?_
   refine step hF (Y.move hF rfl) rfl fun a hF => ?_
   refine join (N := 133) (rs := []) (w0 := w0) (D0 := D0) 12 (us := [(2, .pointer (some ⟨b, 0, none⟩)), (4, .bool false), (6, .int .i64 rv.2), (7, .int .i64 rv_1.1), (8, .int .i64 rv_6.2), (106, .bool ((rv_6.2 != 0) || (rv_6.1 && ((rv.2 != 0) || (decide ((rv_5.length : Int) < rv.1))))))]) (ms := [(1, .cells b [.int .i64 sv.Hours, .int .i64 sv.Gap, .slice p sv.Machines.length c] 24)]) (D' := Dv) ?_ ?_
   ·rcases bcases (rv_6.2 != 0) with hbv_13 | hbv_13
    ·-- true
     refine guard_off hF rfl rfl hbv_13 rfl fun a hF => ?_
     refine guard_off hF rfl rfl hbv_13 rfl fun a hF => ?_
     refine guard_offu hF rfl rfl rfl fun a hF => ?_
     refine guard_offu hF rfl rfl rfl fun a hF => ?_
     refine guard_offu hF rfl rfl rfl fun a hF => ?_
     refine guard_offu hF rfl rfl rfl fun a hF => ?_
     refine guard_offu hF rfl rfl rfl fun a hF => ?_
     refine guard_offu hF rfl rfl rfl fun a hF => ?_
     refine guard_offu hF rfl rfl rfl fun a hF => ?_
     refine guard_offu hF rfl rfl rfl fun a hF => ?_
     refine guard_off hF rfl rfl hbv_13 rfl fun a hF => ?_
     refine step hF (Y.pick_t hF rfl hbv_13 rfl) rfl fun a hF => ?_
     exact nil (then_n ⟨hF.weak ⟨rfl, rfl, rfl, rfl, rfl, (by rw [hbv_13]; rfl), trivial⟩, hS.weak ⟨rfl, trivial⟩⟩)
    ·-- false
     refine guard_on hF rfl rfl hbv_13 ?_
     refine step hF (Y.move hF rfl) rfl fun a hF => ?_
     refine guard_on hF rfl rfl hbv_13 ?_
     refine step hF (Y.move hF rfl) rfl fun a hF => ?_
     refine join (N := 133) (rs := []) (w0 := w0) (D0 := D0) 9 (us := [(2, .pointer (some ⟨b, 0, none⟩)), (4, .bool false), (6, .int .i64 rv.2), (7, .int .i64 rv_1.1), (8, .int .i64 rv_6.2), (94, .bool (rv_6.2 != 0)), (105, .bool (rv_6.1 && ((rv.2 != 0) || (decide ((rv_5.length : Int) < rv.1)))))]) (ms := [(1, .cells b [.int .i64 sv.Hours, .int .i64 sv.Gap, .slice p sv.Machines.length c] 24)]) (D' := Dv) ?_ ?_
     ·rcases bcases rv_6.1 with hbv_14 | hbv_14
      ·-- true
       refine guard_on hF rfl rfl hbv_14 ?_
       refine step hF (Y.move hF rfl) rfl fun a hF => ?_
       refine guard_on hF rfl rfl hbv_14 ?_
       refine step hF (Y.neq hF rfl rfl) rfl fun a hF => ?_
       refine guard_on hF rfl rfl hbv_14 ?_
       refine step hF (Y.move hF rfl) rfl fun a hF => ?_
       refine join (N := 133) (rs := []) (w0 := w0) (D0 := D0) 5 (us := [(2, .pointer (some ⟨b, 0, none⟩)), (4, .bool false), (6, .int .i64 rv.2), (7, .int .i64 rv_1.1), (8, .int .i64 rv_6.2), (94, .bool (rv_6.2 != 0)), (96, .bool rv_6.1), (104, .bool ((rv.2 != 0) || (decide ((rv_5.length : Int) < rv.1))))]) (ms := [(1, .cells b [.int .i64 sv.Hours, .int .i64 sv.Gap, .slice p sv.Machines.length c] 24)]) (D' := Dv) ?_ ?_
       ·rcases bcases (rv.2 != 0) with hbv_15 | hbv_15
        ·-- true
         refine guard_off hF rfl rfl hbv_15 rfl fun a hF => ?_
         refine guard_off hF rfl rfl hbv_15 rfl fun a hF => ?_
         refine guard_off hF rfl rfl hbv_15 rfl fun a hF => ?_
         refine guard_off hF rfl rfl hbv_15 rfl fun a hF => ?_
         refine guard_on hF rfl rfl hbv_14 ?_
         refine step hF (Y.pick_t hF rfl hbv_15 rfl) rfl fun a hF => ?_
         exact nil (then_n ⟨hF.weak ⟨rfl, rfl, rfl, rfl, rfl, rfl, rfl, (by rw [hbv_15]; rfl), trivial⟩, hS.weak ⟨rfl, trivial⟩⟩)
        ·-- false
         refine guard_on hF rfl rfl hbv_15 ?_
         refine step hF (Y.move hF rfl) rfl fun a hF => ?_
         refine guard_on hF rfl rfl hbv_15 ?_
         refine step hF (Y.lenSl u_25 hF rfl) rfl fun a hF => ?_
         refine guard_on hF rfl rfl hbv_15 ?_
         refine step hF (Y.move hF rfl) rfl fun a hF => ?_
         refine guard_on hF rfl rfl hbv_15 ?_
         refine step hF (Y.lss hF rfl rfl) rfl fun a hF => ?_
         refine guard_on hF rfl rfl hbv_14 ?_
         refine step hF (Y.pick_f hF rfl hbv_15 rfl) rfl fun a hF => ?_
         exact nil (then_n ⟨hF.weak ⟨rfl, rfl, rfl, rfl, rfl, rfl, rfl, (by rw [hbv_15]; rfl), trivial⟩, hS.weak ⟨rfl, trivial⟩⟩)
       intro a w hF hS
       refine guard_on hF rfl rfl hbv_13 ?_
       refine step hF (Y.pick_t hF rfl hbv_14 rfl) rfl fun a hF => ?_
       exact nil (then_n ⟨hF.weak ⟨rfl, rfl, rfl, rfl, rfl, rfl, (by rw [hbv_14]; rfl), trivial⟩, hS.weak ⟨rfl, trivial⟩⟩)
      ·-- false
       refine guard_off hF rfl rfl hbv_14 rfl fun a hF => ?_
       refine guard_off hF rfl rfl hbv_14 rfl fun a hF => ?_
       refine guard_off hF rfl rfl hbv_14 rfl fun a hF => ?_
       refine guard_offu hF rfl rfl rfl fun a hF => ?_
       refine guard_offu hF rfl rfl rfl fun a hF => ?_
       refine guard_offu hF rfl rfl rfl fun a hF => ?_
       refine guard_offu hF rfl rfl rfl fun a hF => ?_
       refine guard_off hF rfl rfl hbv_14 rfl fun a hF => ?_
       refine guard_on hF rfl rfl hbv_13 ?_
       refine step hF (Y.pick_f hF rfl hbv_14 rfl) rfl fun a hF => ?_
       exact nil (then_n ⟨hF.weak ⟨rfl, rfl, rfl, rfl, rfl, rfl, (by rw [hbv_14]; rfl), trivial⟩, hS.weak ⟨rfl, trivial⟩⟩)
     intro a w hF hS
     refine step hF (Y.pick_f hF rfl hbv_13 rfl) rfl fun a hF => ?_
     exact nil (then_n ⟨hF.weak ⟨rfl, rfl, rfl, rfl, rfl, (by rw [hbv_13]; rfl), trivial⟩, hS.weak ⟨rfl, trivial⟩⟩)
   intro a w hF hS
   refine nil (then_n ?_)
   refine cond_b hF rfl (fun hbv_16 => ?_) (fun hbv_16 => ?_)
   ·replace h := cond_t h hbv_16
    refine seq ?_
    refine region ?_
    refine step hF (Y.assign hF rfl) rfl fun a hF => ?_
    refine nil (then_n ?_)
    refine ret_ (then_r ?_)
    obtain rfl := some_inj h
    exact leaveP Tryd.results8 hF hS (.cons (.tmp rfl) .nil) .nil rfl
   ·replace h := cond_f h hbv_16
    refine skip_ (then_n ?_)
    refine seq_cut (fun a w => ∃ (v4_0 : Bool), ∃ (Dv_1 : Stab), Dv.le Dv_1 ∧ Frm 133 [] [(4, .bool v4_0)] a ∧ St w0 D0 Dv_1 [(1, .cells b [.int .i64 sv.Hours, .int .i64 sv.Gap, .slice p sv.Machines.length c] 24)] w ∧ remontoirlaw08_SpareFewest_k1 v4_0 = some out) ?_ ?_
    ·skip
     refine seq ?_
     refine region ?_
     refine step hF (Y.move hF rfl) rfl fun a hF => ?_
     obtain ⟨rv_8, hx_8, h⟩ := bind_some h
     refine O.callP (us := [.int .i64 rv_1.1, .int .i64 1, .int .i64 499]) ca_35 hF hS (remontoirref00_Lies_ok hS.stab rv_1.1 1 499 rv_8 hx_8) rfl rfl fun a w hF hS => ?_
     refine nil (then_n ?_)
     refine cond_b hF rfl (fun hbv_17 => ?_) (fun hbv_17 => ?_)
     ·replace h := cond_t h hbv_17
      refine seq ?_
      refine drawsV 5 (.flt 0 (.flt 1 (.alt 2 (.alt 3 (.alt 4 .done .stop) .stop) (.alt 3 (.alt 2 (.alt 4 .done .stop) .stop) .stop)))) mixed_ (by kernel_rfl) (fun w => St w0 D0 Dv [(1, .cells b [.int .i64 sv.Hours, .int .i64 sv.Gap, .slice p sv.Machines.length c] 24)] w) (fun a w => ∃ (b_1 : Nat) (b_2 : Nat), Frm 133 [] [(4, .bool false), (6, .int .i64 rv.2), (7, .int .i64 rv_1.1), (8, .int .i64 rv_6.2), (11, .pointer (some ⟨b_1, 0, none⟩)), (12, .pointer (some ⟨b_2, 0, none⟩)), (110, .agg #[.int .i64 sv.Hours, .int .i64 sv.Gap, .slice p sv.Machines.length c])] a ∧ St w0 D0 Dv [(1, .cells b [.int .i64 sv.Hours, .int .i64 sv.Gap, .slice p sv.Machines.length c] 24), (2, .cells b_1 [.int .i64 sv.Hours, .int .i64 sv.Gap, .slice p sv.Machines.length c] 24), (3, .cells b_2 [.int .i64 0, .int .i64 0, .slice none 0 0] 24)] w) (hS.weak (ms := [(1, .cells b [.int .i64 sv.Hours, .int .i64 sv.Gap, .slice p sv.Machines.length c] 24)]) ⟨rfl, trivial⟩).drew (fun _ _ _ _ h => h) ?_ ?_
      ·replace hS := hS.drew
       have hle0 := hS.le
       refine stepV (i := 0) rfl hF (fun w hS => Y.loadNL 1 sz_24 hF rfl hS rfl rfl rfl) rfl fun a hF => ?_
       refine stepV (i := 1) rfl hF (fun w hS => Y.loadNL 1 sz_24 hF rfl hS rfl rfl rfl) rfl fun a hF => ?_
       refine oneV (i := 2) rfl ?_ ?_
       ·skip
        refine O.alloc 2 zc_24 hF hS rfl fun b_3 a w hF hS => ?_
        refine nil (then_n ⟨hS.weak ⟨rfl, trivial⟩, ?_⟩)
        refine oneV (i := 3) rfl ?_ trivial
        refine O.alloc 3 zc_24 hF hS rfl fun b_4 a w hF hS => ?_
        refine nil (then_n ⟨hS.weak ⟨rfl, trivial⟩, ?_⟩)
        refine oneV (i := 4) rfl ?_ trivial
        refine O.store (us := [.int .i64 sv.Hours, .int .i64 sv.Gap, .slice p sv.Machines.length c]) 2 sz_24 hF rfl rfl rfl rfl hS rfl rfl fun a w hF hS => ?_
        refine nil (then_n ⟨hS.weak ⟨rfl, trivial⟩, ?_⟩)
        exact toTailV ⟨b_3, b_4, hF.weak ⟨rfl, rfl, rfl, rfl, rfl, rfl, rfl, trivial⟩, hS.weak ⟨rfl, rfl, rfl, trivial⟩⟩
       refine oneV (i := 3) rfl ?_ trivial
       refine O.alloc 3 zc_24 hF hS rfl fun b_5 a w hF hS => ?_
       refine nil (then_n ⟨hS.weak ⟨rfl, trivial⟩, ?_⟩)
       refine oneV (i := 2) rfl ?_ trivial
       refine O.alloc 2 zc_24 hF hS rfl fun b_6 a w hF hS => ?_
       refine nil (then_n ⟨hS.weak ⟨rfl, trivial⟩, ?_⟩)
       refine oneV (i := 4) rfl ?_ trivial
       refine O.store (us := [.int .i64 sv.Hours, .int .i64 sv.Gap, .slice p sv.Machines.length c]) 2 sz_24 hF rfl rfl rfl rfl hS rfl rfl fun a w hF hS => ?_
       refine nil (then_n ⟨hS.weak ⟨rfl, trivial⟩, ?_⟩)
       exact toTailV ⟨b_6, b_5, hF.weak ⟨rfl, rfl, rfl, rfl, rfl, rfl, rfl, trivial⟩, hS.weak ⟨rfl, rfl, rfl, trivial⟩⟩
      rintro a w ⟨b_1, b_2, hF, hS⟩
      refine O.store (us := [.int .i64 sv.Hours, .int .i64 sv.Gap, .slice p sv.Machines.length c]) 3 sz_24 hF rfl rfl rfl rfl hS rfl rfl fun a w hF hS => ?_
      refine nil (then_n ?_)
      refine seq ?_
      refine region ?_
      refine step hF (Y.move hF rfl) rfl fun a hF => ?_
      refine step hF (Y.move hF rfl) rfl fun a hF => ?_
      refine step hF (Y.add hF rfl rfl) rfl fun a hF => ?_
      refine step hF (Y.fieldAddr fo_24_0 hF rfl) rfl fun a hF => ?_
      refine O.store (us := [.int .i64 rv_1.1]) 2 sz_3 hF rfl rfl rfl rfl hS rfl rfl fun a w hF hS => ?_
      refine step hF (Y.fieldAddr fo_24_0 hF rfl) rfl fun a hF => ?_
      refine O.store (us := [.int .i64 (wr (rv_1.1 + 1))]) 3 sz_3 hF rfl rfl rfl rfl hS rfl rfl fun a w hF hS => ?_
      refine nil (then_n ?_)
      refine seq ?_
      refine region ?_
      refine step hF (Y.loadNL 2 sz_24 hF rfl hS rfl rfl rfl) rfl fun a hF => ?_
      obtain ⟨rv_9, hx_9, h⟩ := bind_some h
      refine O.callP (us := [.agg #[.int .i64 rv_1.1, .int .i64 sv.Gap, .slice p sv.Machines.length c]]) ca_22 hF hS (spare_Fewest_ok hS.stab (SpareStore.mk rv_1.1 sv.Gap sv.Machines) hs hG rv_9 hx_9) rfl rfl fun a w hF hS => ?_
      refine step hF (Y.move hF rfl) rfl fun a hF => ?_
      refine step hF (Y.extract hF rfl rfl) rfl fun a hF => ?_
      refine step hF (Y.extract hF rfl rfl) rfl fun a hF => ?_
      refine step hF (Y.assign hF rfl) rfl fun a hF => ?_
      refine nil (then_n ?_)
      refine seq ?_
      refine region ?_
      refine step hF (Y.loadNL 3 sz_24 hF rfl hS rfl rfl rfl) rfl fun a hF => ?_
      obtain ⟨rv_10, hx_10, h⟩ := bind_some h
      refine O.callP (us := [.agg #[.int .i64 (wr (rv_1.1 + 1)), .int .i64 sv.Gap, .slice p sv.Machines.length c]]) ca_22 hF hS (spare_Fewest_ok hS.stab (SpareStore.mk (wr (rv_1.1 + 1)) sv.Gap sv.Machines) hs hG rv_10 hx_10) rfl rfl fun a w hF hS => ?_
      refine step hF (Y.move hF rfl) rfl fun a hF => ?_
      refine step hF (Y.extract hF rfl rfl) rfl fun a hF => ?_
      refine step hF (Y.extract hF rfl rfl) rfl fun a hF => ?_
      refine step hF (Y.assign hF rfl) rfl fun a hF => ?_
      refine nil (then_n ?_)
      refine seq ?_
      refine region ?_
      refine step hF (Y.move hF rfl) rfl fun a hF => ?_
      refine step hF (Y.neq hF rfl rfl) rfl fun a hF => ?_
      refine step hF (Y.move hF rfl) rfl fun a hF => ?_
      refine join (N := 133) (rs := []) (w0 := w0) (D0 := D0) 3 (us := [(4, .bool false), (131, .bool ((rv_9.2 != 0) || (rv_10.2 != 4)))]) (ms := [(1, .cells b [.int .i64 sv.Hours, .int .i64 sv.Gap, .slice p sv.Machines.length c] 24), (2, .cells b_1 [.int .i64 rv_1.1, .int .i64 sv.Gap, .slice p sv.Machines.length c] 24), (3, .cells b_2 [.int .i64 (wr (rv_1.1 + 1)), .int .i64 sv.Gap, .slice p sv.Machines.length c] 24)]) (D' := Dv) ?_ ?_
      ·rcases bcases (rv_9.2 != 0) with hbv_18 | hbv_18
       ·-- true
        refine guard_off hF rfl rfl hbv_18 rfl fun a hF => ?_
        refine guard_off hF rfl rfl hbv_18 rfl fun a hF => ?_
        refine step hF (Y.pick_t hF rfl hbv_18 rfl) rfl fun a hF => ?_
        exact nil (then_n ⟨hF.weak ⟨rfl, (by rw [hbv_18]; rfl), trivial⟩, hS.weak ⟨rfl, rfl, rfl, trivial⟩⟩)
       ·-- false
        refine guard_on hF rfl rfl hbv_18 ?_
        refine step hF (Y.move hF rfl) rfl fun a hF => ?_
        refine guard_on hF rfl rfl hbv_18 ?_
        refine step hF (Y.neq hF rfl rfl) rfl fun a hF => ?_
        refine step hF (Y.pick_f hF rfl hbv_18 rfl) rfl fun a hF => ?_
        exact nil (then_n ⟨hF.weak ⟨rfl, (by rw [hbv_18]; rfl), trivial⟩, hS.weak ⟨rfl, rfl, rfl, trivial⟩⟩)
      intro a w hF hS
      refine nil (then_n ?_)
      refine cond_b hF rfl (fun hbv_19 => ?_) (fun hbv_19 => ?_)
      ·replace h := cond_t h hbv_19
       refine seq ?_
       refine region ?_
       refine step hF (Y.assign hF rfl) rfl fun a hF => ?_
       refine nil (then_n ?_)
       refine ret_ (then_r ?_)
       obtain rfl := some_inj h
       exact leaveP Tryd.results8 hF hS (.cons (.tmp rfl) .nil) .nil rfl
      ·replace h := cond_f h hbv_19
       refine skip_ (then_n ?_)
       exact ⟨false, Dv, Stab.le.refl _, hF.weak ⟨rfl, trivial⟩, hS.weak ⟨rfl, trivial⟩, h⟩
     ·replace h := cond_f h hbv_17
      refine skip_ (then_n ?_)
      exact ⟨false, Dv, Stab.le.refl _, hF.weak ⟨rfl, trivial⟩, hS.weak ⟨rfl, trivial⟩, h⟩
    ·rintro a w ⟨v4_0, Dv_1, hlev_1, hF, hS, h⟩
     unfold remontoirlaw08_SpareFewest_k1 at h
     replace hs := hs.mono hlev_1
     replace hs_1 := hs_1.mono hlev_1
     replace hG := hG.mono hlev_1
     replace hs_2 := hs_2.mono hlev_1
     refine seq ?_
     refine region ?_
     obtain ⟨rv_7, hx_7, h⟩ := bind_some h
     refine O.callP (us := []) ca_21 hF hS (remontoirlaw08_works_ok hS.stab hG rv_7 hx_7) rfl rfl fun a w hF hS => ?_
     refine step hF (Y.assign hF rfl) rfl fun a hF => ?_
     refine nil (then_n ?_)
     refine ret_ ?_
     obtain rfl := some_inj h
     exact leaveP Tryd.results8 hF hS (.cons (.tmp rfl) .nil) .nil rfl

end Go.Proofs.YtidmdgjgpmeecaaDoor.Rt
