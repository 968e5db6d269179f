/- Walks of the functions of this seat: what each Go function comes to, as a Lean function, and the proof. A law. Under no conditions. -/
import Derived.Test.YtidmdgjgpmeecaaDoorWSZ
set_option linter.unusedVariables false
set_option linter.unusedSimpArgs false
set_option maxRecDepth 100000
set_option maxHeartbeats 4000000
namespace Go.Proofs.YtidmdgjgpmeecaaDoor.Rt
open Go Go.RowKit
noncomputable def remontoirlaw08_SpareHushed_k5 (rv_11 : ((List Int) × Int)) (v4_1 : Bool) (hv : Int) (e_2 : SpareTurn) (e_3 : Int) (silent_2 : Int) : Option ((Bool × Int × Int) ⊕ ((Bool × Int × Int) ⊕ Bool)) :=
  (remontoirref00_Find rv_11.1 hv).bind fun rv_15 =>
  cond ((decide (rv_15 ≥ 0)) && (!(decide (hv ≥ (wr (e_2.Start + e_3))))))
  (ext (ext (some false)))
  (nxt (v4_1, silent_2, wr (hv + 1)))
noncomputable def remontoirlaw08_SpareHushed_b4 (rv : ((List SpareTurn) × Int)) (lives : (List Int)) (rv_6 : ((List Int) × Int)) (rv_11 : ((List Int) × Int)) (i_1 : Int) (untilv : Int) : (Bool × Int × Int) → Option ((Bool × Int × Int) ⊕ ((Bool × Int × Int) ⊕ Bool))
 | (v4_1, silent_1, hv) =>
  cond (decide (hv < untilv))
  ((idx rv.1 i_1).bind fun e_2 =>
  (idx lives i_1).bind fun e_3 =>
  (remontoirref00_Find rv_6.1 hv).bind fun rv_14 =>
  cond ((decide (hv ≥ (wr (e_2.Start + e_3)))) != (decide (rv_14 ≥ 0)))
  (ext (ext (some false)))
  (cond (decide (hv ≥ (wr (e_2.Start + e_3))))
  (remontoirlaw08_SpareHushed_k5 rv_11 v4_1 hv e_2 e_3 (wr (silent_1 + 1)))
  (remontoirlaw08_SpareHushed_k5 rv_11 v4_1 hv e_2 e_3 silent_1)))
  (ext (nxt (v4_1, silent_1, wr (i_1 + 1))))
noncomputable def remontoirlaw08_SpareHushed_k3 (rv : ((List SpareTurn) × Int)) (lives : (List Int)) (rv_6 : ((List Int) × Int)) (rv_11 : ((List Int) × Int)) (v4_0 : Bool) (silent : Int) (i_1 : Int) (untilv : Int) : Option ((Bool × Int × Int) ⊕ Bool) :=
  (idx rv.1 i_1).bind fun e_1 =>
  loopU (remontoirlaw08_SpareHushed_b4 rv lives rv_6 rv_11 i_1 untilv) (v4_0, silent, e_1.Over)
noncomputable def remontoirlaw08_SpareHushed_b2 (sv : SpareStore) (rv : ((List SpareTurn) × Int)) (lives : (List Int)) (rv_6 : ((List Int) × Int)) (rv_11 : ((List Int) × Int)) : (Bool × Int × Int) → Option ((Bool × Int × Int) ⊕ Bool)
 | (v4_0, silent, i_1) =>
  cond (decide (i_1 < (rv.1.length : Int)))
  (cond (decide ((wr (i_1 + 1)) < (rv.1.length : Int)))
  ((idx rv.1 (wr (i_1 + 1))).bind fun e_4 =>
  remontoirlaw08_SpareHushed_k3 rv lives rv_6 rv_11 v4_0 silent i_1 e_4.Over)
  (remontoirlaw08_SpareHushed_k3 rv lives rv_6 rv_11 v4_0 silent i_1 sv.Hours))
  (ext ((cond (silent == (rv_6.1.length : Int)) ((remontoirlaw08_works).bind fun rv_16 =>
  some rv_16) (some false)).bind fun t_3 =>
  some t_3))
noncomputable def remontoirlaw08_SpareHushed_b1 (sv : SpareStore) (bits : (List Int)) (rv : ((List SpareTurn) × Int)) : ((List Int) × Int) → Option (((List Int) × Int) ⊕ Bool)
 | (lives, i) =>
  cond (decide (i < (rv.1.length : Int)))
  ((remontoirref00_At bits i).bind fun rv_4 =>
  (remontoirref00_Rest rv_4 501).bind fun rv_5 =>
  if lives.length + ([rv_5]).length ≤ lim then
  nxt ((lives ++ [rv_5]), wr (i + 1))
  else none)
  (ext ((spare_Silent sv rv.1 lives).bind fun rv_6 =>
  (remontoirref00_At bits 0).bind fun rv_7 =>
  (remontoirref00_Rest rv_7 (rv.1.length : Int)).bind fun rv_8 =>
  if ([] : List Int).length + lives.length ≤ lim then
  (idx lives rv_8).bind fun e =>
  (remontoirref00_At bits 1).bind fun rv_9 =>
  (remontoirref00_Rest rv_9 20).bind fun rv_10 =>
  if (0 : Int) ≤ rv_8 ∧ rv_8 < ((([] : List Int) ++ lives).length : Int) then
  (spare_Silent sv rv.1 ((([] : List Int) ++ lives).set (Int.toNat rv_8) (if wr (e + rv_10) < 500 then wr (e + rv_10) else 500))).bind fun rv_11 =>
  (cond ((rv_6.2 != 0) || (rv_11.2 != 0)) (some true) ((remontoirref00_Climbs rv_6.1 sv.Hours).bind fun rv_12 =>
  some (!rv_12))).bind fun t_1 =>
  (cond t_1 (some true) ((remontoirref00_Climbs rv_11.1 sv.Hours).bind fun rv_13 =>
  some (!rv_13))).bind fun t_2 =>
  cond t_2
  (some false)
  (loopU (remontoirlaw08_SpareHushed_b2 sv rv lives rv_6 rv_11) (false, 0, 0))
  else none
  else none))
noncomputable def remontoirlaw08_SpareHushed (sv : SpareStore) (bits : (List Int)) : Option Bool :=
  (spare_Plan sv).bind fun rv =>
  (remontoirlaw08_sound sv).bind fun rv_1 =>
  cond ((!rv_1) || (rv.2 != 0))
  ((cond ((rv.2 != 0) && ((rv.1.length : Int) == 0)) ((remontoirlaw08_works).bind fun rv_2 =>
  some rv_2) (some false)).bind fun t =>
  some t)
  ((spare_IsPlan sv rv.1).bind fun rv_3 =>
  cond ((((rv_3.2 != 0) || (!rv_3.1)) || ((rv.1.length : Int) == 0)) || (decide ((rv.1.length : Int) > (sv.Machines.length : Int))))
  (some false)
  (loopU (remontoirlaw08_SpareHushed_b1 sv bits rv) (([] : List Int), 0)))
theorem remontoirlaw08_SpareHushed_ok {w0 : World} {D0 : Stab} (hD : D0.on w0) (sv : SpareStore) (bits : (List Int)) {p : Option Addr} {c : Nat} {p_1 : Option Addr} {c_1 : Nat} (hs : SRc C_SpareMachine D0 sv.Machines p c) (hs_1 : SRc C_int D0 bits p_1 c_1) (hG : Glob D0) (out : Bool) (h : remontoirlaw08_SpareHushed sv bits = some out) : Calls Tryd.prog 13 [.agg #[.int .i64 sv.Hours, .int .i64 sv.Gap, .slice p sv.Machines.length c], .slice p_1 bits.length c_1].toArray w0 (RetP D0 w0 (.bool out)) := by
 refine enter _ 200 Tryd.func13 rfl Tryd.ntmps13 rfl fun a hF => ?_
 replace hF : Frm 200 [] [(0, .agg #[.int .i64 sv.Hours, .int .i64 sv.Gap, .slice p sv.Machines.length c]), (1, .slice p_1 bits.length c_1)] a := hF
 have hS := St.start hD
 unfold remontoirlaw08_SpareHushed at h
 refine seq ?_
 refine region ?_
 refine O.box (cs := [.int .i64 sv.Hours, .int .i64 sv.Gap, .slice p sv.Machines.length c]) 1 hF rfl rfl hS rfl fun b a w hF hS => ?_
 refine step hF (Y.assign hF rfl) rfl fun a hF => ?_
 refine nil (then_n ?_)
 refine seq ?_
 refine region ?_
 refine step hF (Y.loadNL 1 sz_24 hF rfl hS rfl rfl rfl) rfl fun a hF => ?_
 obtain ⟨rv, hx, h⟩ := bind_some h
 refine O.callS (us := [.agg #[.int .i64 sv.Hours, .int .i64 sv.Gap, .slice p sv.Machines.length c]]) ca_24 hF hS (spare_Plan_ok hS.stab sv hs hG rv hx) rfl rfl fun v Dv a w hR hlev hF hS => ?_
 replace hs := hs.mono hlev
 replace hs_1 := hs_1.mono hlev
 replace hG := hG.mono hlev
 obtain ⟨p_2, c_2, rfl, hs_2⟩ := hR
 refine step hF (Y.move hF rfl) rfl fun a hF => ?_
 refine step hF (Y.extract hF rfl rfl) rfl fun a hF => ?_
 refine step hF (Y.extract hF rfl rfl) rfl fun a hF => ?_
 refine step hF (Y.assign hF rfl) rfl fun a hF => ?_
 refine step hF (Y.assign hF rfl) rfl fun a hF => ?_
 refine nil (then_n ?_)
 refine seq ?_
 refine seq ?_
 refine region ?_
 refine step hF (Y.loadNL 1 sz_24 hF rfl hS rfl rfl rfl) rfl fun a hF => ?_
 obtain ⟨rv_1, hx_1, h⟩ := bind_some h
 refine O.callP (us := [.agg #[.int .i64 sv.Hours, .int .i64 sv.Gap, .slice p sv.Machines.length c]]) ca_34 hF hS (remontoirlaw08_sound_ok hS.stab sv hs rv_1 hx_1) rfl rfl fun a w hF hS => ?_
 refine step hF (Y.not hF rfl) rfl fun a hF => ?_
 refine step hF (Y.move hF rfl) rfl fun a hF => ?_
 refine join (N := 200) (rs := []) (w0 := w0) (D0 := D0) 3 (us := [(1, .slice p_1 bits.length c_1), (2, .pointer (some ⟨b, 0, none⟩)), (4, .bool false), (5, .slice p_2 rv.1.length c_2), (6, .int .i64 rv.2), (32, .bool ((!rv_1) || (rv.2 != 0)))]) (ms := [(1, .cells b [.int .i64 sv.Hours, .int .i64 sv.Gap, .slice p sv.Machines.length c] 24)]) (D' := Dv) ?_ ?_
 ·rcases bcases (!rv_1) with hbv | hbv
  ·-- true
   refine guard_off hF rfl rfl hbv rfl fun a hF => ?_
   refine guard_off hF rfl rfl hbv rfl fun a hF => ?_
   refine step hF (Y.pick_t hF rfl hbv rfl) rfl fun a hF => ?_
   exact nil (then_n ⟨hF.weak ⟨rfl, rfl, rfl, rfl, rfl, (by rw [hbv]; rfl), trivial⟩, hS.weak ⟨rfl, trivial⟩⟩)
  ·-- false
   refine guard_on hF rfl rfl hbv ?_
   refine step hF (Y.move hF rfl) rfl fun a hF => ?_
   refine guard_on hF rfl rfl hbv ?_
   refine step hF (Y.neq hF rfl rfl) rfl fun a hF => ?_
   refine step hF (Y.pick_f hF rfl hbv rfl) rfl fun a hF => ?_
   exact nil (then_n ⟨hF.weak ⟨rfl, rfl, rfl, rfl, rfl, (by rw [hbv]; rfl), trivial⟩, hS.weak ⟨rfl, trivial⟩⟩)
 intro a w hF hS
 refine nil (then_n ?_)
 refine cond_b hF rfl (fun hbv_1 => ?_) (fun hbv_1 => ?_)
 ·replace h := cond_t h hbv_1
  refine seq ?_
  refine region ?_
  refine step hF (Y.move hF rfl) rfl fun a hF => ?_
  refine step hF (Y.neq hF rfl rfl) rfl fun a hF => ?_
  refine step hF (Y.move hF rfl) rfl fun a hF => ?_
  refine join (N := 200) (rs := []) (w0 := w0) (D0 := D0) 4 (us := [(1, .slice p_1 bits.length c_1), (2, .pointer (some ⟨b, 0, none⟩)), (4, .bool false), (5, .slice p_2 rv.1.length c_2), (6, .int .i64 rv.2), (39, .bool ((rv.2 != 0) && ((rv.1.length : Int) == 0)))]) (ms := [(1, .cells b [.int .i64 sv.Hours, .int .i64 sv.Gap, .slice p sv.Machines.length c] 24)]) (D' := Dv) ?_ ?_
  ·rcases bcases (rv.2 != 0) with hbv_2 | hbv_2
   ·-- true
    refine guard_on hF rfl rfl hbv_2 ?_
    refine step hF (Y.move hF rfl) rfl fun a hF => ?_
    refine guard_on hF rfl rfl hbv_2 ?_
    refine step hF (Y.lenSl u_25 hF rfl) rfl fun a hF => ?_
    refine guard_on hF rfl rfl hbv_2 ?_
    refine step hF (Y.eql hF rfl rfl) rfl fun a hF => ?_
    refine step hF (Y.pick_t hF rfl hbv_2 rfl) rfl fun a hF => ?_
    exact nil (then_n ⟨hF.weak ⟨rfl, rfl, rfl, rfl, rfl, (by rw [hbv_2]; rfl), trivial⟩, hS.weak ⟨rfl, trivial⟩⟩)
   ·-- false
    refine guard_off hF rfl rfl hbv_2 rfl fun a hF => ?_
    refine guard_off hF rfl rfl hbv_2 rfl fun a hF => ?_
    refine guard_off hF rfl rfl hbv_2 rfl fun a hF => ?_
    refine step hF (Y.pick_f hF rfl hbv_2 rfl) rfl fun a hF => ?_
    exact nil (then_n ⟨hF.weak ⟨rfl, rfl, rfl, rfl, rfl, (by rw [hbv_2]; rfl), trivial⟩, hS.weak ⟨rfl, trivial⟩⟩)
  intro a w hF hS
  refine step hF (Y.move hF rfl) rfl fun a hF => ?_
  obtain ⟨t, ht, h⟩ := bind_some h
  refine join (N := 200) (rs := []) (w0 := w0) (D0 := D0) 2 (us := [(1, .slice p_1 bits.length c_1), (2, .pointer (some ⟨b, 0, none⟩)), (4, .bool false), (5, .slice p_2 rv.1.length c_2), (6, .int .i64 rv.2), (42, .bool t)]) (ms := [(1, .cells b [.int .i64 sv.Hours, .int .i64 sv.Gap, .slice p sv.Machines.length c] 24)]) (D' := Dv) ?_ ?_
  ·rcases bcases ((rv.2 != 0) && ((rv.1.length : Int) == 0)) with hbv_3 | hbv_3
   ·-- true
    replace h := cond_t ht hbv_3
    refine guard_on hF rfl rfl hbv_3 ?_
    obtain ⟨rv_2, hx_2, h⟩ := bind_some h
    refine O.callP (us := []) ca_21 hF hS (remontoirlaw08_works_ok hS.stab hG rv_2 hx_2) rfl rfl fun a w hF hS => ?_
    refine step hF (Y.pick_t hF rfl hbv_3 rfl) rfl fun a hF => ?_
    obtain rfl := some_inj h
    exact nil (then_n ⟨hF.weak ⟨rfl, rfl, rfl, rfl, rfl, rfl, trivial⟩, hS.weak ⟨rfl, trivial⟩⟩)
   ·-- false
    replace h := cond_f ht hbv_3
    refine guard_off hF rfl rfl hbv_3 rfl fun a hF => ?_
    refine step hF (Y.pick_f hF rfl hbv_3 rfl) rfl fun a hF => ?_
    obtain rfl := some_inj h
    exact nil (then_n ⟨hF.weak ⟨rfl, rfl, rfl, rfl, rfl, rfl, trivial⟩, hS.weak ⟨rfl, trivial⟩⟩)
  intro a w hF hS
  refine step hF (Y.assign hF rfl) rfl fun a hF => ?_
  refine nil (then_n ?_)
  refine ret_ (then_r ?_)
  obtain rfl := some_inj h
  exact leaveP Tryd.results13 hF hS (.cons (.tmp rfl) .nil) .nil rfl
 ·replace h := cond_f h hbv_1
  refine skip_ (then_n ?_)
  refine seq ?_
  refine seq ?_
  refine region ?_
  refine step hF (Y.loadNL 1 sz_24 hF rfl hS rfl rfl rfl) rfl fun a hF => ?_
  refine step hF (Y.move hF rfl) rfl fun a hF => ?_
  obtain ⟨rv_3, hx_3, h⟩ := bind_some h
  refine O.callP (us := [.agg #[.int .i64 sv.Hours, .int .i64 sv.Gap, .slice p sv.Machines.length c], .slice p_2 rv.1.length c_2]) ca_19 hF hS (spare_IsPlan_ok hS.stab sv rv.1 hs hs_2 rv_3 hx_3) rfl rfl fun a w hF hS => ?_
  refine step hF (Y.move hF rfl) rfl fun a hF => ?_
  refine step hF (Y.extract hF rfl rfl) rfl fun a hF => ?_
  refine step hF (Y.extract hF rfl rfl) rfl fun a hF => ?_
  refine step hF (Y.assign hF rfl) rfl fun a hF => ?_
  refine step hF (Y.assign hF rfl) rfl fun a hF => ?_
  refine nil (then_n ?_)
  refine seq ?_
  refine region ?_
  refine step hF (Y.move hF rfl) rfl fun a hF => ?_
  refine step hF (Y.neq hF rfl rfl) rfl fun a hF => ?_
  refine step hF (Y.move hF rfl) rfl fun a hF => ?_
  refine join (N := 200) (rs := []) (w0 := w0) (D0 := D0) 3 (us := [(1, .slice p_1 bits.length c_1), (2, .pointer (some ⟨b, 0, none⟩)), (4, .bool false), (5, .slice p_2 rv.1.length c_2), (6, .int .i64 rv.2), (54, .bool ((rv_3.2 != 0) || (!rv_3.1)))]) (ms := [(1, .cells b [.int .i64 sv.Hours, .int .i64 sv.Gap, .slice p sv.Machines.length c] 24)]) (D' := Dv) ?_ ?_
  ·rcases bcases (rv_3.2 != 0) with hbv_4 | hbv_4
   ·-- true
    refine guard_off hF rfl rfl hbv_4 rfl fun a hF => ?_
    refine guard_off hF rfl rfl hbv_4 rfl fun a hF => ?_
    refine step hF (Y.pick_t hF rfl hbv_4 rfl) rfl fun a hF => ?_
    exact nil (then_n ⟨hF.weak ⟨rfl, rfl, rfl, rfl, rfl, (by rw [hbv_4]; rfl), trivial⟩, hS.weak ⟨rfl, trivial⟩⟩)
   ·-- false
    refine guard_on hF rfl rfl hbv_4 ?_
    refine step hF (Y.move hF rfl) rfl fun a hF => ?_
    refine guard_on hF rfl rfl hbv_4 ?_
    refine step hF (Y.not hF rfl) rfl fun a hF => ?_
    refine step hF (Y.pick_f hF rfl hbv_4 rfl) rfl fun a hF => ?_
    exact nil (then_n ⟨hF.weak ⟨rfl, rfl, rfl, rfl, rfl, (by rw [hbv_4]; rfl), trivial⟩, hS.weak ⟨rfl, trivial⟩⟩)
  intro a w hF hS
  refine step hF (Y.move hF rfl) rfl fun a hF => ?_
  refine join (N := 200) (rs := []) (w0 := w0) (D0 := D0) 4 (us := [(1, .slice p_1 bits.length c_1), (2, .pointer (some ⟨b, 0, none⟩)), (4, .bool false), (5, .slice p_2 rv.1.length c_2), (6, .int .i64 rv.2), (59, .bool (((rv_3.2 != 0) || (!rv_3.1)) || ((rv.1.length : Int) == 0)))]) (ms := [(1, .cells b [.int .i64 sv.Hours, .int .i64 sv.Gap, .slice p sv.Machines.length c] 24)]) (D' := Dv) ?_ ?_
  ·rcases bcases ((rv_3.2 != 0) || (!rv_3.1)) with hbv_5 | hbv_5
   ·-- true
    refine guard_off hF rfl rfl hbv_5 rfl fun a hF => ?_
    refine guard_off hF rfl rfl hbv_5 rfl fun a hF => ?_
    refine guard_off hF rfl rfl hbv_5 rfl fun a hF => ?_
    refine step hF (Y.pick_t hF rfl hbv_5 rfl) rfl fun a hF => ?_
    exact nil (then_n ⟨hF.weak ⟨rfl, rfl, rfl, rfl, rfl, (by rw [hbv_5]; rfl), trivial⟩, hS.weak ⟨rfl, trivial⟩⟩)
   ·-- false
    refine guard_on hF rfl rfl hbv_5 ?_
    refine step hF (Y.move hF rfl) rfl fun a hF => ?_
    refine guard_on hF rfl rfl hbv_5 ?_
    refine step hF (Y.lenSl u_25 hF rfl) rfl fun a hF => ?_
    refine guard_on hF rfl rfl hbv_5 ?_
    refine step hF (Y.eql hF rfl rfl) rfl fun a hF => ?_
    refine step hF (Y.pick_f hF rfl hbv_5 rfl) rfl fun a hF => ?_
    exact nil (then_n ⟨hF.weak ⟨rfl, rfl, rfl, rfl, rfl, (by rw [hbv_5]; rfl), trivial⟩, hS.weak ⟨rfl, trivial⟩⟩)
  intro a w hF hS
  refine step hF (Y.move hF rfl) rfl fun a hF => ?_
  refine join (N := 200) (rs := []) (w0 := w0) (D0 := D0) 7 (us := [(1, .slice p_1 bits.length c_1), (2, .pointer (some ⟨b, 0, none⟩)), (4, .bool false), (5, .slice p_2 rv.1.length c_2), (6, .int .i64 rv.2), (67, .bool ((((rv_3.2 != 0) || (!rv_3.1)) || ((rv.1.length : Int) == 0)) || (decide ((rv.1.length : Int) > (sv.Machines.length : Int)))))]) (ms := [(1, .cells b [.int .i64 sv.Hours, .int .i64 sv.Gap, .slice p sv.Machines.length c] 24)]) (D' := Dv) ?_ ?_
  ·rcases bcases (((rv_3.2 != 0) || (!rv_3.1)) || ((rv.1.length : Int) == 0)) with hbv_6 | hbv_6
   ·-- true
    refine guard_off hF rfl rfl hbv_6 rfl fun a hF => ?_
    refine guard_off hF rfl rfl hbv_6 rfl fun a hF => ?_
    refine guard_off hF rfl rfl hbv_6 rfl fun a hF => ?_
    refine guard_off hF rfl rfl hbv_6 rfl fun a hF => ?_
    refine guard_off hF rfl rfl hbv_6 rfl fun a hF => ?_
    refine guard_off hF rfl rfl hbv_6 rfl fun a hF => ?_
    refine step hF (Y.pick_t hF rfl hbv_6 rfl) rfl fun a hF => ?_
    exact nil (then_n ⟨hF.weak ⟨rfl, rfl, rfl, rfl, rfl, (by rw [hbv_6]; rfl), trivial⟩, hS.weak ⟨rfl, trivial⟩⟩)
   ·-- false
    refine guard_on hF rfl rfl hbv_6 ?_
    refine step hF (Y.move hF rfl) rfl fun a hF => ?_
    refine guard_on hF rfl rfl hbv_6 ?_
    refine step hF (Y.lenSl u_25 hF rfl) rfl fun a hF => ?_
    refine guard_on hF rfl rfl hbv_6 ?_
    refine step hF (Y.fieldAddr fo_24_2 hF rfl) rfl fun a hF => ?_
    refine guard_on hF rfl rfl hbv_6 ?_
    refine step hF (Y.load1L 1 sz_22 hF rfl hS rfl rfl) rfl fun a hF => ?_
    refine guard_on hF rfl rfl hbv_6 ?_
    refine step hF (Y.lenSl u_22 hF rfl) rfl fun a hF => ?_
    refine guard_on hF rfl rfl hbv_6 ?_
    refine step hF (Y.gtr hF rfl rfl) rfl fun a hF => ?_
    refine step hF (Y.pick_f hF rfl hbv_6 rfl) rfl fun a hF => ?_
    exact nil (then_n ⟨hF.weak ⟨rfl, rfl, rfl, rfl, rfl, (by rw [hbv_6]; rfl), trivial⟩, hS.weak ⟨rfl, trivial⟩⟩)
  intro a w hF hS
  refine nil (then_n ?_)
  refine cond_b hF rfl (fun hbv_7 => ?_) (fun hbv_7 => ?_)
  ·replace h := cond_t h hbv_7
   refine seq ?_
   refine region ?_
   refine step hF (Y.assign hF rfl) rfl fun a hF => ?_
   refine nil (then_n ?_)
   refine ret_ (then_r ?_)
   obtain rfl := some_inj h
   exact leaveP Tryd.results13 hF hS (.cons (.tmp rfl) .nil) .nil rfl
  ·replace h := cond_f h hbv_7
   refine skip_ (then_n ?_)
   refine seq ?_
   refine region ?_
   refine step hF (Y.assign hF rfl) rfl fun a hF => ?_
   replace hS := hS.ownNil 2 3 1
   refine nil (then_n ?_)
   refine seq ?_
   refine seq ?_
   refine region ?_
   refine step hF (Y.assign hF rfl) rfl fun a hF => ?_
   refine nil (then_n ?_)
   refine block ?_
   refine loop_cut (body := remontoirlaw08_SpareHushed_b1 sv bits rv) (out := out) (fun s a w => ∃ (lives : (List Int)) (i : Int), ∃ (Dv_1 : Stab), ∃ p_3 c_3 cs, s = (lives, i) ∧ Dv.le Dv_1 ∧ Frm 200 [] [(1, .slice p_1 bits.length c_1), (2, .pointer (some ⟨b, 0, none⟩)), (4, .bool false), (5, .slice p_2 rv.1.length c_2), (6, .int .i64 rv.2), (9, .slice p_3 lives.length c_3), (10, .int .i64 i)] a ∧ St w0 D0 Dv_1 [(1, .cells b [.int .i64 sv.Hours, .int .i64 sv.Gap, .slice p sv.Machines.length c] 24), (2, .own p_3 lives.length c_3 cs 3 1)] w ∧ Reps C_int Dv_1 lives cs) (([] : List Int), 0) h ⟨([] : List Int), 0, Dv, none, 0, ([]), rfl, Stab.le.refl _, hF.weak ⟨rfl, rfl, rfl, rfl, rfl, rfl, rfl, trivial⟩, hS.weak ⟨rfl, rfl, trivial⟩, Reps.nil⟩ ?_
   rintro s a w xo ⟨lives, i, Dv_1, p_3, c_3, cs, rfl, hlev_1, hF, hS, hr⟩ h hxo
   unfold remontoirlaw08_SpareHushed_b1 at h
   dsimp only at h
   replace hs := hs.mono hlev_1
   replace hs_1 := hs_1.mono hlev_1
   replace hG := hG.mono hlev_1
   replace hs_2 := hs_2.mono hlev_1
   refine seq ?_
   refine seq ?_
   refine region ?_
   refine step hF (Y.move hF rfl) rfl fun a hF => ?_
   refine step hF (Y.move hF rfl) rfl fun a hF => ?_
   refine step hF (Y.lenSl u_25 hF rfl) rfl fun a hF => ?_
   refine step hF (Y.lss hF rfl rfl) rfl fun a hF => ?_
   refine nil (then_n ?_)
   refine cond_b hF rfl (fun hbv_8 => ?_) (fun hbv_8 => ?_)
   ·replace h := cond_t h hbv_8
    refine skip_ (then_n ?_)
    refine seq ?_
    refine block ?_
    refine region ?_
    refine step hF (Y.move hF rfl) rfl fun a hF => ?_
    refine step hF (Y.move hF rfl) rfl fun a hF => ?_
    refine step hF (Y.move hF rfl) rfl fun a hF => ?_
    obtain ⟨rv_4, hx_4, h⟩ := bind_some h
    refine O.callP (us := [.slice p_1 bits.length c_1, .int .i64 i]) ca_38 hF hS (remontoirref00_At_ok hS.stab bits i hs_1 rv_4 hx_4) rfl rfl fun a w hF hS => ?_
    obtain ⟨rv_5, hx_5, h⟩ := bind_some h
    refine O.callP (us := [.int .i64 rv_4, .int .i64 501]) ca_42 hF hS (remontoirref00_Rest_ok hS.stab rv_4 501 rv_5 hx_5) rfl rfl fun a w hF hS => ?_
    have hr_1 : Reps C_int Dv_1 [rv_5] [.int .i64 rv_5] := Reps.cons (C := C_int) (x := rv_5) (c := [.int .i64 rv_5]) (r := []) rfl (Reps.nil)
    refine O.buildSlice (E := 3) (C := C_int) (xs := [rv_5]) (cs := [.int .i64 rv_5]) (us := [.int .i64 rv_5]) (parts := [(0, (.tmp 78))]) 3 hF hS rfl (by kernel_rfl) hr_1 rfl rfl rfl fun p_4 c_4 a w hF hS => ?_
    obtain ⟨hg, h⟩ := ite_some h
    refine O.append (C := C_int) (xs := lives) (ys := [rv_5]) 2 gr_39 hF rfl rfl hS rfl (src_own (i := 3) hS rfl) hr hr_1 hg rfl fun p_5 c_5 a w hF hS hr_2 => ?_
    refine step hF (Y.assign hF rfl) rfl fun a hF => ?_
    refine nil (blk_n (then_n ?_))
    refine region ?_
    refine step hF (Y.move hF rfl) rfl fun a hF => ?_
    refine step hF (Y.add hF rfl rfl) rfl fun a hF => ?_
    refine step hF (Y.assign hF rfl) rfl fun a hF => ?_
    refine nil (then_n ?_)
    exact ⟨_, nxt_some h, (lives ++ [rv_5]), (wr (i + 1)), Dv_1, p_5, c_5, (cs ++ [.int .i64 rv_5]), rfl, hlev_1, hF.weak ⟨rfl, rfl, rfl, rfl, rfl, rfl, rfl, trivial⟩, hS.weak ⟨rfl, rfl, trivial⟩, hr_2⟩
   ·replace h := cond_f h hbv_8
    refine exit_ (then_x (then_x (blk_hit (then_n ?_))))
    replace h := ext_some h hxo
    refine seq ?_
    refine region ?_
    refine step hF (Y.loadNL 1 sz_24 hF rfl hS rfl rfl rfl) rfl fun a hF => ?_
    refine step hF (Y.move hF rfl) rfl fun a hF => ?_
    refine step hF (Y.move hF rfl) rfl fun a hF => ?_
    obtain ⟨Dv_2, hlev_2, hs_3, hS⟩ := hS.freezeC (i := 2) (xs := lives) rfl hr
    replace hs := hs.mono hlev_2
    replace hs_1 := hs_1.mono hlev_2
    replace hG := hG.mono hlev_2
    replace hs_2 := hs_2.mono hlev_2
    replace hr := hr.mono hlev_2
    obtain ⟨rv_6, hx_6, h⟩ := bind_some h
    refine O.callS (us := [.agg #[.int .i64 sv.Hours, .int .i64 sv.Gap, .slice p sv.Machines.length c], .slice p_2 rv.1.length c_2, .slice p_3 lives.length c_3]) ca_32 hF hS (spare_Silent_ok hS.stab sv rv.1 lives hs hs_2 hs_3 rv_6 hx_6) rfl rfl fun v_1 Dv_3 a w hR_1 hlev_3 hF hS => ?_
    replace hs := hs.mono hlev_3
    replace hs_1 := hs_1.mono hlev_3
    replace hG := hG.mono hlev_3
    replace hs_2 := hs_2.mono hlev_3
    replace hr := hr.mono hlev_3
    replace hs_3 := hs_3.mono hlev_3
    obtain ⟨p_6, c_6, rfl, hs_4⟩ := hR_1
    refine step hF (Y.move hF rfl) rfl fun a hF => ?_
    refine step hF (Y.extract hF rfl rfl) rfl fun a hF => ?_
    refine step hF (Y.extract hF rfl rfl) rfl fun a hF => ?_
    refine step hF (Y.assign hF rfl) rfl fun a hF => ?_
    refine step hF (Y.assign hF rfl) rfl fun a hF => ?_
    refine nil (then_n ?_)
    refine seq ?_
    refine region ?_
    refine step hF (Y.move hF rfl) rfl fun a hF => ?_
    obtain ⟨rv_7, hx_7, h⟩ := bind_some h
    refine O.callP (us := [.slice p_1 bits.length c_1, .int .i64 0]) ca_38 hF hS (remontoirref00_At_ok hS.stab bits 0 hs_1 rv_7 hx_7) rfl rfl fun a w hF hS => ?_
    refine step hF (Y.move hF rfl) rfl fun a hF => ?_
    refine step hF (Y.lenSl u_25 hF rfl) rfl fun a hF => ?_
    obtain ⟨rv_8, hx_8, h⟩ := bind_some h
    refine O.callP (us := [.int .i64 rv_7, .int .i64 (rv.1.length : Int)]) ca_42 hF hS (remontoirref00_Rest_ok hS.stab rv_7 (rv.1.length : Int) rv_8 hx_8) rfl rfl fun a w hF hS => ?_
    refine step hF (Y.assign hF rfl) rfl fun a hF => ?_
    refine nil (then_n ?_)
    refine seq ?_
    refine region ?_
    have hr_3 : Reps C_int Dv_3 ([] : List Int) [] := Reps.nil
    refine O.buildSlice (E := 3) (C := C_int) (xs := ([] : List Int)) (cs := []) (us := []) (parts := []) 4 hF hS rfl (by kernel_rfl) hr_3 rfl rfl rfl fun p_7 c_7 a w hF hS => ?_
    refine step hF (Y.move hF rfl) rfl fun a hF => ?_
    obtain ⟨hg_1, h⟩ := ite_some h
    obtain ⟨ds, hds, hsrc⟩ := src_stab (C := C_int) (xs := lives) (hs_3).1 hS.stab
    refine O.append (C := C_int) (xs := ([] : List Int)) (ys := lives) 4 gr_39 hF rfl rfl hS rfl hsrc hr_3 hds hg_1 rfl fun p_8 c_8 a w hF hS hr_4 => ?_
    refine step hF (Y.assign hF rfl) rfl fun a hF => ?_
    refine nil (then_n ?_)
    refine seq ?_
    obtain ⟨e, hx_9, h⟩ := bind_some h
    obtain ⟨rv_9, hx_10, h⟩ := bind_some h
    obtain ⟨rv_10, hx_11, h⟩ := bind_some h
    refine drawsV 11 (.flt 0 (.flt 1 (.flt 2 (.flt 3 (.flt 4 (.flt 5 (.flt 6 (.alt 7 (.alt 8 (.flt 9 (.flt 10 .done)) .stop) .stop)))))))) mixed_ (by kernel_rfl) (fun w => St w0 D0 Dv_3 [(1, .cells b [.int .i64 sv.Hours, .int .i64 sv.Gap, .slice p sv.Machines.length c] 24), (4, .own p_8 (([] : List Int) ++ lives).length c_8 ([] ++ ds) 3 1)] w) (fun a w => Frm 200 [] [(2, .pointer (some ⟨b, 0, none⟩)), (4, .bool false), (5, .slice p_2 rv.1.length c_2), (6, .int .i64 rv_6.2), (9, .slice p_3 lives.length c_3), (11, .slice p_6 rv_6.1.length c_6), (13, .slice p_8 (([] : List Int) ++ lives).length c_8), (96, .slice p_8 (([] : List Int) ++ lives).length c_8), (97, .int .i64 rv_8), (106, .int .i64 (if wr (e + rv_10) < 500 then wr (e + rv_10) else 500))] a ∧ St w0 D0 Dv_3 [(1, .cells b [.int .i64 sv.Hours, .int .i64 sv.Gap, .slice p sv.Machines.length c] 24), (4, .own p_8 (([] : List Int) ++ lives).length c_8 ([] ++ ds) 3 1)] w) (hS.weak (ms := [(1, .cells b [.int .i64 sv.Hours, .int .i64 sv.Gap, .slice p sv.Machines.length c] 24), (4, .own p_8 (([] : List Int) ++ lives).length c_8 ([] ++ ds) 3 1)]) ⟨rfl, rfl, trivial⟩).drew (fun _ _ _ _ h => h) ?_ ?_
    ·replace hS := hS.drew
     have hle0 := hS.le
     refine stepV (i := 0) rfl hF (fun w hS => Y.move hF rfl) rfl fun a hF => ?_
     refine stepV (i := 1) rfl hF (fun w hS => Y.move hF rfl) rfl fun a hF => ?_
     refine stepV (i := 2) rfl hF (fun w hS => Y.move hF rfl) rfl fun a hF => ?_
     refine stepV (i := 3) rfl hF (fun w hS => Y.move hF rfl) rfl fun a hF => ?_
     obtain ⟨b_2, o_1, hE_1, hY_1⟩ := Y.indexS (P := Tryd.prog) (C := C_int) (xs := lives) (T := 39) (x := (.tmp 98)) (y := (.tmp 99)) u_39 sz_3 hF rfl rfl (hs_3).1 hx_9
     obtain ⟨cc_1, hc_1, hcell_1⟩ := hE_1.open
     obtain rfl := hc_1
     refine stepV (i := 4) rfl hF (fun w hS => hY_1) rfl fun a hF => ?_
     refine stepV (i := 5) rfl hF (fun w hS => Y.load1 sz_3 hF rfl (hcell_1 _ hS.stab 0 _ rfl)) rfl fun a hF => ?_
     refine stepV (i := 6) rfl hF (fun w hS => Y.move hF rfl) rfl fun a hF => ?_
     refine oneV (i := 7) rfl ?_ trivial
     refine O.callP (us := [.slice p_1 bits.length c_1, .int .i64 1]) ca_38 hF hS (remontoirref00_At_ok hS.stab bits 1 hs_1 rv_9 hx_10) rfl rfl fun a w hF hS => ?_
     refine nil (then_n ⟨hS.weak ⟨rfl, rfl, trivial⟩, ?_⟩)
     refine oneV (i := 8) rfl ?_ trivial
     refine O.callP (us := [.int .i64 rv_9, .int .i64 20]) ca_42 hF hS (remontoirref00_Rest_ok hS.stab rv_9 20 rv_10 hx_11) rfl rfl fun a w hF hS => ?_
     refine nil (then_n ⟨hS.weak ⟨rfl, rfl, trivial⟩, ?_⟩)
     refine stepV (i := 9) rfl hF (fun w hS => Y.add hF rfl rfl) rfl fun a hF => ?_
     refine stepV (i := 10) rfl hF (fun w hS => Y.min2 hF rfl rfl) rfl fun a hF => ?_
     exact toTailV ⟨hF.weak ⟨rfl, rfl, rfl, rfl, rfl, rfl, rfl, rfl, rfl, rfl, trivial⟩, hS.weak ⟨rfl, rfl, trivial⟩⟩
    rintro a w ⟨hF, hS⟩
    obtain ⟨hg_2, h⟩ := ite_some h
    obtain ⟨b_3, hp⟩ := hS.ownPtr (i := 4) rfl hg_2
    refine step hF (Y.indexOwn hp u_39 sz_3 hg_2 hF rfl rfl) rfl fun a hF => ?_
    refine O.storeOwnP (C := C_int) (v0 := (if wr (e + rv_10) < 500 then wr (e + rv_10) else 500)) (xs := (([] : List Int) ++ lives)) (us := [.int .i64 (if wr (e + rv_10) < 500 then wr (e + rv_10) else 500)]) 4 hp sz_3 hg_2 hF rfl rfl rfl rfl hS rfl hr_4 fun cs_1 a w hF hS hr_5 => ?_
    try rw [show (([] : List Int) ++ lives).length = ((([] : List Int) ++ lives).set (Int.toNat rv_8) (if wr (e + rv_10) < 500 then wr (e + rv_10) else 500)).length from List.length_set.symm] at hF
    try rw [show (([] : List Int) ++ lives).length = ((([] : List Int) ++ lives).set (Int.toNat rv_8) (if wr (e + rv_10) < 500 then wr (e + rv_10) else 500)).length from List.length_set.symm] at hS
    refine nil (then_n ?_)
    refine seq ?_
    refine region ?_
    refine step hF (Y.loadNL 1 sz_24 hF rfl hS rfl rfl rfl) rfl fun a hF => ?_
    refine step hF (Y.move hF rfl) rfl fun a hF => ?_
    refine step hF (Y.move hF rfl) rfl fun a hF => ?_
    obtain ⟨Dv_4, hlev_4, hs_5, hS⟩ := hS.freezeC (i := 4) (xs := ((([] : List Int) ++ lives).set (Int.toNat rv_8) (if wr (e + rv_10) < 500 then wr (e + rv_10) else 500))) rfl hr_5
    replace hs := hs.mono hlev_4
    replace hs_1 := hs_1.mono hlev_4
    replace hG := hG.mono hlev_4
    replace hs_2 := hs_2.mono hlev_4
    replace hr := hr.mono hlev_4
    replace hs_3 := hs_3.mono hlev_4
    replace hs_4 := hs_4.mono hlev_4
    replace hr_3 := hr_3.mono hlev_4
    replace hr_4 := hr_4.mono hlev_4
    replace hr_5 := hr_5.mono hlev_4
    obtain ⟨rv_11, hx_12, h⟩ := bind_some h
    refine O.callS (us := [.agg #[.int .i64 sv.Hours, .int .i64 sv.Gap, .slice p sv.Machines.length c], .slice p_2 rv.1.length c_2, .slice p_8 ((([] : List Int) ++ lives).set (Int.toNat rv_8) (if wr (e + rv_10) < 500 then wr (e + rv_10) else 500)).length c_8]) ca_32 hF hS (spare_Silent_ok hS.stab sv rv.1 ((([] : List Int) ++ lives).set (Int.toNat rv_8) (if wr (e + rv_10) < 500 then wr (e + rv_10) else 500)) hs hs_2 hs_5 rv_11 hx_12) rfl rfl fun v_2 Dv_5 a w hR_2 hlev_5 hF hS => ?_
    replace hs := hs.mono hlev_5
    replace hs_1 := hs_1.mono hlev_5
    replace hG := hG.mono hlev_5
    replace hs_2 := hs_2.mono hlev_5
    replace hr := hr.mono hlev_5
    replace hs_3 := hs_3.mono hlev_5
    replace hs_4 := hs_4.mono hlev_5
    replace hr_3 := hr_3.mono hlev_5
    replace hr_4 := hr_4.mono hlev_5
    replace hr_5 := hr_5.mono hlev_5
    replace hs_5 := hs_5.mono hlev_5
    obtain ⟨p_9, c_9, rfl, hs_6⟩ := hR_2
    refine step hF (Y.move hF rfl) rfl fun a hF => ?_
    refine step hF (Y.extract hF rfl rfl) rfl fun a hF => ?_
    refine step hF (Y.extract hF rfl rfl) rfl fun a hF => ?_
    refine step hF (Y.assign hF rfl) rfl fun a hF => ?_
    refine step hF (Y.assign hF rfl) rfl fun a hF => ?_
    refine nil (then_n ?_)
    refine seq ?_
    refine seq ?_
    refine region ?_
    refine step hF (Y.move hF rfl) rfl fun a hF => ?_
    refine step hF (Y.neq hF rfl rfl) rfl fun a hF => ?_
    refine step hF (Y.move hF rfl) rfl fun a hF => ?_
    refine join (N := 200) (rs := []) (w0 := w0) (D0 := D0) 3 (us := [(2, .pointer (some ⟨b, 0, none⟩)), (4, .bool false), (5, .slice p_2 rv.1.length c_2), (9, .slice p_3 lives.length c_3), (11, .slice p_6 rv_6.1.length c_6), (14, .slice p_9 rv_11.1.length c_9), (120, .bool ((rv_6.2 != 0) || (rv_11.2 != 0)))]) (ms := [(1, .cells b [.int .i64 sv.Hours, .int .i64 sv.Gap, .slice p sv.Machines.length c] 24)]) (D' := Dv_5) ?_ ?_
    ·rcases bcases (rv_6.2 != 0) with hbv_9 | hbv_9
     ·-- true
      refine guard_off hF rfl rfl hbv_9 rfl fun a hF => ?_
      refine guard_off hF rfl rfl hbv_9 rfl fun a hF => ?_
      refine step hF (Y.pick_t hF rfl hbv_9 rfl) rfl fun a hF => ?_
      exact nil (then_n ⟨hF.weak ⟨rfl, rfl, rfl, rfl, rfl, rfl, (by rw [hbv_9]; rfl), trivial⟩, hS.weak ⟨rfl, trivial⟩⟩)
     ·-- false
      refine guard_on hF rfl rfl hbv_9 ?_
      refine step hF (Y.move hF rfl) rfl fun a hF => ?_
      refine guard_on hF rfl rfl hbv_9 ?_
      refine step hF (Y.neq hF rfl rfl) rfl fun a hF => ?_
      refine step hF (Y.pick_f hF rfl hbv_9 rfl) rfl fun a hF => ?_
      exact nil (then_n ⟨hF.weak ⟨rfl, rfl, rfl, rfl, rfl, rfl, (by rw [hbv_9]; rfl), trivial⟩, hS.weak ⟨rfl, trivial⟩⟩)
    intro a w hF hS
    refine step hF (Y.move hF rfl) rfl fun a hF => ?_
    obtain ⟨t_1, ht_1, h⟩ := bind_some h
    refine join (N := 200) (rs := []) (w0 := w0) (D0 := D0) 6 (us := [(2, .pointer (some ⟨b, 0, none⟩)), (4, .bool false), (5, .slice p_2 rv.1.length c_2), (9, .slice p_3 lives.length c_3), (11, .slice p_6 rv_6.1.length c_6), (14, .slice p_9 rv_11.1.length c_9), (127, .bool t_1)]) (ms := [(1, .cells b [.int .i64 sv.Hours, .int .i64 sv.Gap, .slice p sv.Machines.length c] 24)]) (D' := Dv_5) ?_ ?_
    ·rcases bcases ((rv_6.2 != 0) || (rv_11.2 != 0)) with hbv_10 | hbv_10
     ·-- true
      replace h := cond_t ht_1 hbv_10
      refine guard_off hF rfl rfl hbv_10 rfl fun a hF => ?_
      refine guard_off hF rfl rfl hbv_10 rfl fun a hF => ?_
      refine guard_off hF rfl rfl hbv_10 rfl fun a hF => ?_
      refine guard_off hF rfl rfl hbv_10 rfl fun a hF => ?_
      refine guard_off hF rfl rfl hbv_10 rfl fun a hF => ?_
      refine step hF (Y.pick_t hF rfl hbv_10 rfl) rfl fun a hF => ?_
      obtain rfl := some_inj h
      exact nil (then_n ⟨hF.weak ⟨rfl, rfl, rfl, rfl, rfl, rfl, rfl, trivial⟩, hS.weak ⟨rfl, trivial⟩⟩)
     ·-- false
      replace h := cond_f ht_1 hbv_10
      refine guard_on hF rfl rfl hbv_10 ?_
      refine step hF (Y.move hF rfl) rfl fun a hF => ?_
      refine guard_on hF rfl rfl hbv_10 ?_
      refine step hF (Y.fieldAddr fo_24_0 hF rfl) rfl fun a hF => ?_
      refine guard_on hF rfl rfl hbv_10 ?_
      refine step hF (Y.load1L 1 sz_3 hF rfl hS rfl rfl) rfl fun a hF => ?_
      refine guard_on hF rfl rfl hbv_10 ?_
      obtain ⟨rv_12, hx_13, h⟩ := bind_some h
      refine O.callP (us := [.slice p_6 rv_6.1.length c_6, .int .i64 sv.Hours]) ca_43 hF hS (remontoirref00_Climbs_ok hS.stab rv_6.1 sv.Hours hs_4 rv_12 hx_13) rfl rfl fun a w hF hS => ?_
      refine guard_on hF rfl rfl hbv_10 ?_
      refine step hF (Y.not hF rfl) rfl fun a hF => ?_
      refine step hF (Y.pick_f hF rfl hbv_10 rfl) rfl fun a hF => ?_
      obtain rfl := some_inj h
      exact nil (then_n ⟨hF.weak ⟨rfl, rfl, rfl, rfl, rfl, rfl, rfl, trivial⟩, hS.weak ⟨rfl, trivial⟩⟩)
    intro a w hF hS
    refine step hF (Y.move hF rfl) rfl fun a hF => ?_
    obtain ⟨t_2, ht_2, h⟩ := bind_some h
    refine join (N := 200) (rs := []) (w0 := w0) (D0 := D0) 6 (us := [(2, .pointer (some ⟨b, 0, none⟩)), (4, .bool false), (5, .slice p_2 rv.1.length c_2), (9, .slice p_3 lives.length c_3), (11, .slice p_6 rv_6.1.length c_6), (14, .slice p_9 rv_11.1.length c_9), (134, .bool t_2)]) (ms := [(1, .cells b [.int .i64 sv.Hours, .int .i64 sv.Gap, .slice p sv.Machines.length c] 24)]) (D' := Dv_5) ?_ ?_
    ·rcases bcases t_1 with hbv_11 | hbv_11
     ·-- true
      replace h := cond_t ht_2 hbv_11
      refine guard_off hF rfl rfl hbv_11 rfl fun a hF => ?_
      refine guard_off hF rfl rfl hbv_11 rfl fun a hF => ?_
      refine guard_off hF rfl rfl hbv_11 rfl fun a hF => ?_
      refine guard_off hF rfl rfl hbv_11 rfl fun a hF => ?_
      refine guard_off hF rfl rfl hbv_11 rfl fun a hF => ?_
      refine step hF (Y.pick_t hF rfl hbv_11 rfl) rfl fun a hF => ?_
      obtain rfl := some_inj h
      exact nil (then_n ⟨hF.weak ⟨rfl, rfl, rfl, rfl, rfl, rfl, rfl, trivial⟩, hS.weak ⟨rfl, trivial⟩⟩)
     ·-- false
      replace h := cond_f ht_2 hbv_11
      refine guard_on hF rfl rfl hbv_11 ?_
      refine step hF (Y.move hF rfl) rfl fun a hF => ?_
      refine guard_on hF rfl rfl hbv_11 ?_
      refine step hF (Y.fieldAddr fo_24_0 hF rfl) rfl fun a hF => ?_
      refine guard_on hF rfl rfl hbv_11 ?_
      refine step hF (Y.load1L 1 sz_3 hF rfl hS rfl rfl) rfl fun a hF => ?_
      refine guard_on hF rfl rfl hbv_11 ?_
      obtain ⟨rv_13, hx_14, h⟩ := bind_some h
      refine O.callP (us := [.slice p_9 rv_11.1.length c_9, .int .i64 sv.Hours]) ca_43 hF hS (remontoirref00_Climbs_ok hS.stab rv_11.1 sv.Hours hs_6 rv_13 hx_14) rfl rfl fun a w hF hS => ?_
      refine guard_on hF rfl rfl hbv_11 ?_
      refine step hF (Y.not hF rfl) rfl fun a hF => ?_
      refine step hF (Y.pick_f hF rfl hbv_11 rfl) rfl fun a hF => ?_
      obtain rfl := some_inj h
      exact nil (then_n ⟨hF.weak ⟨rfl, rfl, rfl, rfl, rfl, rfl, rfl, trivial⟩, hS.weak ⟨rfl, trivial⟩⟩)
    intro a w hF hS
    refine nil (then_n ?_)
    refine cond_b hF rfl (fun hbv_12 => ?_) (fun hbv_12 => ?_)
    ·replace h := cond_t h hbv_12
     refine seq ?_
     refine region ?_
     refine step hF (Y.assign hF rfl) rfl fun a hF => ?_
     refine nil (then_n ?_)
     refine ret_ (then_r ?_)
     obtain rfl := some_inj h
     exact leaveP Tryd.results13 hF hS (.cons (.tmp rfl) .nil) .nil rfl
    ·replace h := cond_f h hbv_12
     refine skip_ (then_n ?_)
     refine seq ?_
     refine region ?_
     refine step hF (Y.assign hF rfl) rfl fun a hF => ?_
     refine nil (then_n ?_)
     refine seq ?_
     refine seq ?_
     refine region ?_
     refine step hF (Y.assign hF rfl) rfl fun a hF => ?_
     refine nil (then_n ?_)
     refine block ?_
     refine loop_cut (body := remontoirlaw08_SpareHushed_b2 sv rv lives rv_6 rv_11) (out := out) (fun s a w => ∃ (v4_0 : Bool) (silent : Int) (i_1 : Int), ∃ (Dv_6 : Stab), s = (v4_0, silent, i_1) ∧ Dv_5.le Dv_6 ∧ Frm 200 [] [(2, .pointer (some ⟨b, 0, none⟩)), (4, .bool v4_0), (5, .slice p_2 rv.1.length c_2), (9, .slice p_3 lives.length c_3), (11, .slice p_6 rv_6.1.length c_6), (14, .slice p_9 rv_11.1.length c_9), (16, .int .i64 silent), (17, .int .i64 i_1)] a ∧ St w0 D0 Dv_6 [(1, .cells b [.int .i64 sv.Hours, .int .i64 sv.Gap, .slice p sv.Machines.length c] 24)] w) (false, 0, 0) h ⟨false, 0, 0, Dv_5, rfl, Stab.le.refl _, hF.weak ⟨rfl, rfl, rfl, rfl, rfl, rfl, rfl, rfl, trivial⟩, hS.weak ⟨rfl, trivial⟩⟩ ?_
     rintro s a w xo_1 ⟨v4_0, silent, i_1, Dv_6, rfl, hlev_6, hF, hS⟩ h hxo_1
     unfold remontoirlaw08_SpareHushed_b2 at h
     dsimp only at h
     replace hs := hs.mono hlev_6
     replace hs_1 := hs_1.mono hlev_6
     replace hG := hG.mono hlev_6
     replace hs_2 := hs_2.mono hlev_6
     replace hr := hr.mono hlev_6
     replace hs_3 := hs_3.mono hlev_6
     replace hs_4 := hs_4.mono hlev_6
     replace hr_3 := hr_3.mono hlev_6
     replace hr_4 := hr_4.mono hlev_6
     replace hr_5 := hr_5.mono hlev_6
     replace hs_5 := hs_5.mono hlev_6
     replace hs_6 := hs_6.mono hlev_6
     refine seq ?_
     refine seq ?_
     refine region ?_
     refine step hF (Y.move hF rfl) rfl fun a hF => ?_
     refine step hF (Y.move hF rfl) rfl fun a hF => ?_
     refine step hF (Y.lenSl u_25 hF rfl) rfl fun a hF => ?_
     refine step hF (Y.lss hF rfl rfl) rfl fun a hF => ?_
     refine nil (then_n ?_)
     refine cond_b hF rfl (fun hbv_13 => ?_) (fun hbv_13 => ?_)
     ·replace h := cond_t h hbv_13
      refine skip_ (then_n ?_)
      refine seq ?_
      refine block ?_
      refine seq ?_
      refine region ?_
      refine step hF (Y.fieldAddr fo_24_0 hF rfl) rfl fun a hF => ?_
      refine step hF (Y.load1L 1 sz_3 hF rfl hS rfl rfl) rfl fun a hF => ?_
      refine step hF (Y.assign hF rfl) rfl fun a hF => ?_
      refine nil (then_n ?_)
      refine seq_cut (fun a w => ∃ (untilv : Int), Frm 200 [] [(2, .pointer (some ⟨b, 0, none⟩)), (4, .bool v4_0), (5, .slice p_2 rv.1.length c_2), (9, .slice p_3 lives.length c_3), (11, .slice p_6 rv_6.1.length c_6), (14, .slice p_9 rv_11.1.length c_9), (16, .int .i64 silent), (17, .int .i64 i_1), (18, .int .i64 untilv)] a ∧ St w0 D0 Dv_6 [(1, .cells b [.int .i64 sv.Hours, .int .i64 sv.Gap, .slice p sv.Machines.length c] 24)] w ∧ remontoirlaw08_SpareHushed_k3 rv lives rv_6 rv_11 v4_0 silent i_1 untilv = some xo_1) ?_ ?_
      ·skip
       refine seq ?_
       refine region ?_
       refine step hF (Y.move hF rfl) rfl fun a hF => ?_
       refine step hF (Y.add hF rfl rfl) rfl fun a hF => ?_
       refine step hF (Y.move hF rfl) rfl fun a hF => ?_
       refine step hF (Y.lenSl u_25 hF rfl) rfl fun a hF => ?_
       refine step hF (Y.lss hF rfl rfl) rfl fun a hF => ?_
       refine nil (then_n ?_)
       refine cond_b hF rfl (fun hbv_19 => ?_) (fun hbv_19 => ?_)
       ·replace h := cond_t h hbv_19
        refine region ?_
        refine step hF (Y.move hF rfl) rfl fun a hF => ?_
        refine step hF (Y.move hF rfl) rfl fun a hF => ?_
        refine step hF (Y.add hF rfl rfl) rfl fun a hF => ?_
        obtain ⟨e_4, hx_20, h⟩ := bind_some h
        obtain ⟨b_7, o_5, hE_5, hY_5⟩ := Y.indexS (P := Tryd.prog) (C := C_SpareTurn) (xs := rv.1) (T := 25) (x := (.tmp 148)) (y := (.tmp 150)) u_25 sz_46 hF rfl rfl (hs_2).1 hx_20
        obtain ⟨cc_5, hc_5, hcell_5⟩ := hE_5.open
        obtain rfl := C_SpareTurn.open hc_5
        refine step hF (hY_5) rfl fun a hF => ?_
        refine step hF (Y.fieldAddr fo_46_2 hF rfl) rfl fun a hF => ?_
        refine step hF (Y.load1 sz_3 hF rfl (hcell_5 _ hS.stab 2 _ rfl)) rfl fun a hF => ?_
        refine step hF (Y.assign hF rfl) rfl fun a hF => ?_
        refine nil (then_n ?_)
        exact ⟨e_4.Over, hF.weak ⟨rfl, rfl, rfl, rfl, rfl, rfl, rfl, rfl, rfl, trivial⟩, hS.weak ⟨rfl, trivial⟩, h⟩
       ·replace h := cond_f h hbv_19
        refine skip_ (then_n ?_)
        exact ⟨sv.Hours, hF.weak ⟨rfl, rfl, rfl, rfl, rfl, rfl, rfl, rfl, rfl, trivial⟩, hS.weak ⟨rfl, trivial⟩, h⟩
      ·rintro a w ⟨untilv, hF, hS, h⟩
       unfold remontoirlaw08_SpareHushed_k3 at h
       refine seq ?_
       refine region ?_
       refine step hF (Y.move hF rfl) rfl fun a hF => ?_
       refine step hF (Y.move hF rfl) rfl fun a hF => ?_
       obtain ⟨e_1, hx_15, h⟩ := bind_some h
       obtain ⟨b_4, o_2, hE_2, hY_2⟩ := Y.indexS (P := Tryd.prog) (C := C_SpareTurn) (xs := rv.1) (T := 25) (x := (.tmp 154)) (y := (.tmp 155)) u_25 sz_46 hF rfl rfl (hs_2).1 hx_15
       obtain ⟨cc_2, hc_2, hcell_2⟩ := hE_2.open
       obtain rfl := C_SpareTurn.open hc_2
       refine step hF (hY_2) rfl fun a hF => ?_
       refine step hF (Y.fieldAddr fo_46_2 hF rfl) rfl fun a hF => ?_
       refine step hF (Y.load1 sz_3 hF rfl (hcell_2 _ hS.stab 2 _ rfl)) rfl fun a hF => ?_
       refine step hF (Y.assign hF rfl) rfl fun a hF => ?_
       refine nil (then_n ?_)
       refine block ?_
       refine loop_cut (body := remontoirlaw08_SpareHushed_b4 rv lives rv_6 rv_11 i_1 untilv) (out := xo_1) (fun s a w => ∃ (v4_1 : Bool) (silent_1 : Int) (hv : Int), ∃ (Dv_7 : Stab), s = (v4_1, silent_1, hv) ∧ Dv_6.le Dv_7 ∧ Frm 200 [] [(2, .pointer (some ⟨b, 0, none⟩)), (4, .bool v4_1), (5, .slice p_2 rv.1.length c_2), (9, .slice p_3 lives.length c_3), (11, .slice p_6 rv_6.1.length c_6), (14, .slice p_9 rv_11.1.length c_9), (16, .int .i64 silent_1), (17, .int .i64 i_1), (18, .int .i64 untilv), (19, .int .i64 hv)] a ∧ St w0 D0 Dv_7 [(1, .cells b [.int .i64 sv.Hours, .int .i64 sv.Gap, .slice p sv.Machines.length c] 24)] w) (v4_0, silent, e_1.Over) h ⟨v4_0, silent, e_1.Over, Dv_6, rfl, Stab.le.refl _, hF.weak ⟨rfl, rfl, rfl, rfl, rfl, rfl, rfl, rfl, rfl, rfl, trivial⟩, hS.weak ⟨rfl, trivial⟩⟩ ?_
       rintro s a w xo_2 ⟨v4_1, silent_1, hv, Dv_7, rfl, hlev_7, hF, hS⟩ h hxo_2
       unfold remontoirlaw08_SpareHushed_b4 at h
       dsimp only at h
       replace hs := hs.mono hlev_7
       replace hs_1 := hs_1.mono hlev_7
       replace hG := hG.mono hlev_7
       replace hs_2 := hs_2.mono hlev_7
       replace hr := hr.mono hlev_7
       replace hs_3 := hs_3.mono hlev_7
       replace hs_4 := hs_4.mono hlev_7
       replace hr_3 := hr_3.mono hlev_7
       replace hr_4 := hr_4.mono hlev_7
       replace hr_5 := hr_5.mono hlev_7
       replace hs_5 := hs_5.mono hlev_7
       replace hs_6 := hs_6.mono hlev_7
       replace hcell_2 := fun w hw => hcell_2 w (Stab.on.le hw hlev_7)
       refine seq ?_
       refine seq ?_
       refine region ?_
       refine step hF (Y.move hF rfl) rfl fun a hF => ?_
       refine step hF (Y.move hF rfl) rfl fun a hF => ?_
       refine step hF (Y.lss hF rfl rfl) rfl fun a hF => ?_
       refine nil (then_n ?_)
       refine cond_b hF rfl (fun hbv_14 => ?_) (fun hbv_14 => ?_)
       ·replace h := cond_t h hbv_14
        refine skip_ (then_n ?_)
        refine seq ?_
        refine block ?_
        refine seq ?_
        refine draws 13 [(0, true), (1, true), (2, true), (3, true), (4, true), (5, true), (6, true), (7, true), (8, true), (9, true), (10, true), (11, true), (12, true)] mixed_ (by kernel_rfl) (fun w => St w0 D0 Dv_7 _ w) hS.drew (fun _ _ _ _ h => h) ?_
        replace hS := hS.drew
        refine stepT (i := 0) rfl hF (fun w hS => Y.move hF rfl) rfl fun a hF => ?_
        refine stepT (i := 1) rfl hF (fun w hS => Y.move hF rfl) rfl fun a hF => ?_
        refine stepT (i := 2) rfl hF (fun w hS => Y.move hF rfl) rfl fun a hF => ?_
        obtain ⟨e_2, hx_16, h⟩ := bind_some h
        obtain ⟨b_5, o_3, hE_3, hY_3⟩ := Y.indexS (P := Tryd.prog) (C := C_SpareTurn) (xs := rv.1) (T := 25) (x := (.tmp 165)) (y := (.tmp 166)) u_25 sz_46 hF rfl rfl (hs_2).1 hx_16
        obtain ⟨cc_3, hc_3, hcell_3⟩ := hE_3.open
        obtain rfl := C_SpareTurn.open hc_3
        refine stepT (i := 3) rfl hF (fun w hS => hY_3) rfl fun a hF => ?_
        refine stepT (i := 4) rfl hF (fun w hS => Y.fieldAddr fo_46_1 hF rfl) rfl fun a hF => ?_
        refine stepT (i := 5) rfl hF (fun w hS => Y.load1 sz_3 hF rfl (hcell_3 _ hS.stab 1 _ rfl)) rfl fun a hF => ?_
        refine stepT (i := 6) rfl hF (fun w hS => Y.move hF rfl) rfl fun a hF => ?_
        refine stepT (i := 7) rfl hF (fun w hS => Y.move hF rfl) rfl fun a hF => ?_
        obtain ⟨e_3, hx_17, h⟩ := bind_some h
        obtain ⟨b_6, o_4, hE_4, hY_4⟩ := Y.indexS (P := Tryd.prog) (C := C_int) (xs := lives) (T := 39) (x := (.tmp 170)) (y := (.tmp 171)) u_39 sz_3 hF rfl rfl (hs_3).1 hx_17
        obtain ⟨cc_4, hc_4, hcell_4⟩ := hE_4.open
        obtain rfl := hc_4
        refine stepT (i := 8) rfl hF (fun w hS => hY_4) rfl fun a hF => ?_
        refine stepT (i := 9) rfl hF (fun w hS => Y.load1 sz_3 hF rfl (hcell_4 _ hS.stab 0 _ rfl)) rfl fun a hF => ?_
        refine stepT (i := 10) rfl hF (fun w hS => Y.add hF rfl rfl) rfl fun a hF => ?_
        refine stepT (i := 11) rfl hF (fun w hS => Y.geq hF rfl rfl) rfl fun a hF => ?_
        refine stepT (i := 12) rfl hF (fun w hS => Y.assign hF rfl) rfl fun a hF => ?_
        refine toTail ?_
        refine nil (then_n ?_)
        refine seq ?_
        refine seq ?_
        refine region ?_
        refine step hF (Y.move hF rfl) rfl fun a hF => ?_
        refine step hF (Y.move hF rfl) rfl fun a hF => ?_
        refine step hF (Y.move hF rfl) rfl fun a hF => ?_
        obtain ⟨rv_14, hx_18, h⟩ := bind_some h
        refine O.callP (us := [.slice p_6 rv_6.1.length c_6, .int .i64 hv]) ca_45 hF hS (remontoirref00_Find_ok hS.stab rv_6.1 hv hs_4 rv_14 hx_18) rfl rfl fun a w hF hS => ?_
        refine step hF (Y.geq hF rfl rfl) rfl fun a hF => ?_
        refine step hF (Y.neb u_4 hF rfl rfl) rfl fun a hF => ?_
        refine nil (then_n ?_)
        refine cond_b hF rfl (fun hbv_15 => ?_) (fun hbv_15 => ?_)
        ·replace h := cond_t h hbv_15
         refine seq ?_
         refine region ?_
         refine step hF (Y.assign hF rfl) rfl fun a hF => ?_
         refine nil (then_n ?_)
         refine ret_ (then_r (blk_r (then_r (then_r (blk_r (blk_r (then_r (then_r (blk_r (then_r ?_))))))))))
         replace h := ext_some h hxo_2
         replace h := ext_some h hxo_1
         obtain rfl := some_inj h
         exact leaveP Tryd.results13 hF hS (.cons (.tmp rfl) .nil) .nil rfl
        ·replace h := cond_f h hbv_15
         refine skip_ (then_n ?_)
         refine seq_cut (fun a w => ∃ (silent_2 : Int), Frm 200 [] [(2, .pointer (some ⟨b, 0, none⟩)), (4, .bool v4_1), (5, .slice p_2 rv.1.length c_2), (9, .slice p_3 lives.length c_3), (11, .slice p_6 rv_6.1.length c_6), (14, .slice p_9 rv_11.1.length c_9), (16, .int .i64 silent_2), (17, .int .i64 i_1), (18, .int .i64 untilv), (19, .int .i64 hv), (20, .bool (decide (hv ≥ (wr (e_2.Start + e_3)))))] a ∧ St w0 D0 Dv_7 [(1, .cells b [.int .i64 sv.Hours, .int .i64 sv.Gap, .slice p sv.Machines.length c] 24)] w ∧ remontoirlaw08_SpareHushed_k5 rv_11 v4_1 hv e_2 e_3 silent_2 = some xo_2) ?_ ?_
         ·skip
          refine seq ?_
          refine region ?_
          refine step hF (Y.move hF rfl) rfl fun a hF => ?_
          refine nil (then_n ?_)
          refine cond_b hF rfl (fun hbv_18 => ?_) (fun hbv_18 => ?_)
          ·replace h := cond_t h hbv_18
           refine region ?_
           refine step hF (Y.move hF rfl) rfl fun a hF => ?_
           refine step hF (Y.add hF rfl rfl) rfl fun a hF => ?_
           refine step hF (Y.assign hF rfl) rfl fun a hF => ?_
           refine nil (then_n ?_)
           exact ⟨(wr (silent_1 + 1)), hF.weak ⟨rfl, rfl, rfl, rfl, rfl, rfl, rfl, rfl, rfl, rfl, rfl, trivial⟩, hS.weak ⟨rfl, trivial⟩, h⟩
          ·replace h := cond_f h hbv_18
           refine skip_ (then_n ?_)
           exact ⟨silent_1, hF.weak ⟨rfl, rfl, rfl, rfl, rfl, rfl, rfl, rfl, rfl, rfl, rfl, trivial⟩, hS.weak ⟨rfl, trivial⟩, h⟩
         ·rintro a w ⟨silent_2, hF, hS, h⟩
          unfold remontoirlaw08_SpareHushed_k5 at h
          refine seq ?_
          refine region ?_
          refine step hF (Y.move hF rfl) rfl fun a hF => ?_
          refine step hF (Y.move hF rfl) rfl fun a hF => ?_
          obtain ⟨rv_15, hx_19, h⟩ := bind_some h
          refine O.callP (us := [.slice p_9 rv_11.1.length c_9, .int .i64 hv]) ca_45 hF hS (remontoirref00_Find_ok hS.stab rv_11.1 hv hs_6 rv_15 hx_19) rfl rfl fun a w hF hS => ?_
          refine step hF (Y.geq hF rfl rfl) rfl fun a hF => ?_
          refine step hF (Y.move hF rfl) rfl fun a hF => ?_
          refine join (N := 200) (rs := []) (w0 := w0) (D0 := D0) 3 (us := [(2, .pointer (some ⟨b, 0, none⟩)), (4, .bool v4_1), (5, .slice p_2 rv.1.length c_2), (9, .slice p_3 lives.length c_3), (11, .slice p_6 rv_6.1.length c_6), (14, .slice p_9 rv_11.1.length c_9), (16, .int .i64 silent_2), (17, .int .i64 i_1), (18, .int .i64 untilv), (19, .int .i64 hv), (192, .bool ((decide (rv_15 ≥ 0)) && (!(decide (hv ≥ (wr (e_2.Start + e_3)))))))]) (ms := [(1, .cells b [.int .i64 sv.Hours, .int .i64 sv.Gap, .slice p sv.Machines.length c] 24)]) (D' := Dv_7) ?_ ?_
          ·rcases bcases (decide (rv_15 ≥ 0)) with hbv_16 | hbv_16
           ·-- true
            refine guard_on hF rfl rfl hbv_16 ?_
            refine step hF (Y.move hF rfl) rfl fun a hF => ?_
            refine guard_on hF rfl rfl hbv_16 ?_
            refine step hF (Y.not hF rfl) rfl fun a hF => ?_
            refine step hF (Y.pick_t hF rfl hbv_16 rfl) rfl fun a hF => ?_
            exact nil (then_n ⟨hF.weak ⟨rfl, rfl, rfl, rfl, rfl, rfl, rfl, rfl, rfl, rfl, (by rw [hbv_16]; rfl), trivial⟩, hS.weak ⟨rfl, trivial⟩⟩)
           ·-- false
            refine guard_off hF rfl rfl hbv_16 rfl fun a hF => ?_
            refine guard_off hF rfl rfl hbv_16 rfl fun a hF => ?_
            refine step hF (Y.pick_f hF rfl hbv_16 rfl) rfl fun a hF => ?_
            exact nil (then_n ⟨hF.weak ⟨rfl, rfl, rfl, rfl, rfl, rfl, rfl, rfl, rfl, rfl, (by rw [hbv_16]; rfl), trivial⟩, hS.weak ⟨rfl, trivial⟩⟩)
          intro a w hF hS
          refine nil (then_n ?_)
          refine cond_b hF rfl (fun hbv_17 => ?_) (fun hbv_17 => ?_)
          ·replace h := cond_t h hbv_17
           refine seq ?_
           refine region ?_
           refine step hF (Y.assign hF rfl) rfl fun a hF => ?_
           refine nil (then_n ?_)
           refine ret_ (blk_r (then_r (then_r (blk_r (blk_r (then_r (then_r (blk_r (then_r ?_)))))))))
           replace h := ext_some h hxo_2
           replace h := ext_some h hxo_1
           obtain rfl := some_inj h
           exact leaveP Tryd.results13 hF hS (.cons (.tmp rfl) .nil) .nil rfl
          ·replace h := cond_f h hbv_17
           refine skip_ (blk_n (then_n ?_))
           refine region ?_
           refine step hF (Y.move hF rfl) rfl fun a hF => ?_
           refine step hF (Y.add hF rfl rfl) rfl fun a hF => ?_
           refine step hF (Y.assign hF rfl) rfl fun a hF => ?_
           refine nil (then_n ?_)
           exact ⟨_, nxt_some h, v4_1, silent_2, (wr (hv + 1)), Dv_7, rfl, hlev_7, hF.weak ⟨rfl, rfl, rfl, rfl, rfl, rfl, rfl, rfl, rfl, rfl, trivial⟩, hS.weak ⟨rfl, trivial⟩⟩
       ·replace h := cond_f h hbv_14
        refine exit_ (then_x (then_x (blk_hit (blk_n (then_n ?_)))))
        replace h := ext_some h hxo_2
        refine region ?_
        refine step hF (Y.move hF rfl) rfl fun a hF => ?_
        refine step hF (Y.add hF rfl rfl) rfl fun a hF => ?_
        refine step hF (Y.assign hF rfl) rfl fun a hF => ?_
        refine nil (then_n ?_)
        exact ⟨_, nxt_some h, v4_1, silent_1, (wr (i_1 + 1)), Dv_7, rfl, hlev_6.trans hlev_7, hF.weak ⟨rfl, rfl, rfl, rfl, rfl, rfl, rfl, rfl, trivial⟩, hS.weak ⟨rfl, trivial⟩⟩
     ·replace h := cond_f h hbv_13
      refine exit_ (then_x (then_x (blk_hit (then_n ?_))))
      replace h := ext_some h hxo_1
      refine seq ?_
      refine region ?_
      refine step hF (Y.move hF rfl) rfl fun a hF => ?_
      refine step hF (Y.move hF rfl) rfl fun a hF => ?_
      refine step hF (Y.lenSl u_39 hF rfl) rfl fun a hF => ?_
      refine step hF (Y.eql hF rfl rfl) rfl fun a hF => ?_
      refine step hF (Y.move hF rfl) rfl fun a hF => ?_
      obtain ⟨t_3, ht_3, h⟩ := bind_some h
      refine join (N := 200) (rs := []) (w0 := w0) (D0 := D0) 2 (us := [(4, .bool v4_0), (199, .bool t_3)]) (ms := [(1, .cells b [.int .i64 sv.Hours, .int .i64 sv.Gap, .slice p sv.Machines.length c] 24)]) (D' := Dv_6) ?_ ?_
      ·rcases bcases (silent == (rv_6.1.length : Int)) with hbv_20 | hbv_20
       ·-- true
        replace h := cond_t ht_3 hbv_20
        refine guard_on hF rfl rfl hbv_20 ?_
        obtain ⟨rv_16, hx_21, h⟩ := bind_some h
        refine O.callP (us := []) ca_21 hF hS (remontoirlaw08_works_ok hS.stab hG rv_16 hx_21) rfl rfl fun a w hF hS => ?_
        refine step hF (Y.pick_t hF rfl hbv_20 rfl) rfl fun a hF => ?_
        obtain rfl := some_inj h
        exact nil (then_n ⟨hF.weak ⟨rfl, rfl, trivial⟩, hS.weak ⟨rfl, trivial⟩⟩)
       ·-- false
        replace h := cond_f ht_3 hbv_20
        refine guard_off hF rfl rfl hbv_20 rfl fun a hF => ?_
        refine step hF (Y.pick_f hF rfl hbv_20 rfl) rfl fun a hF => ?_
        obtain rfl := some_inj h
        exact nil (then_n ⟨hF.weak ⟨rfl, rfl, trivial⟩, hS.weak ⟨rfl, trivial⟩⟩)
      intro a w hF hS
      refine step hF (Y.assign hF rfl) rfl fun a hF => ?_
      refine nil (then_n ?_)
      refine ret_ ?_
      obtain rfl := some_inj h
      exact leaveP Tryd.results13 hF hS (.cons (.tmp rfl) .nil) .nil rfl

end Go.Proofs.YtidmdgjgpmeecaaDoor.Rt
