/- Walks of the functions of this seat: what each Go function comes to, as a Lean function, and the proof. A law. Under no conditions. -/
import Derived.Test.YtidmdgjgpmeecaaDoorWSZ
set_option linter.unusedVariables false
set_option linter.unusedSimpArgs false
set_option maxRecDepth 100000
set_option maxHeartbeats 4000000
namespace Go.Proofs.YtidmdgjgpmeecaaDoor.Rt
open Go Go.RowKit
noncomputable def remontoirlaw08_SpareTrue_k2 (i : Int) (v4_1 : Bool) (lives_1 : (List Int)) (used_1 : Int) : Option ((Bool × (List Int) × Int × Int) ⊕ Bool) :=
  nxt (v4_1, lives_1, used_1, wr (i + 1))
noncomputable def remontoirlaw08_SpareTrue_k3 (sv : SpareStore) (bits : (List Int)) (rv : ((List SpareTurn) × Int)) (v4_0 : Bool) (lives : (List Int)) (used : Int) (i : Int) (e : SpareTurn) (e_3 : SpareMachine) (rv_10 : Int) (untilv : Int) : Option ((Bool × (List Int) × Int × Int) ⊕ Bool) :=
  (idx rv.1 i).bind fun e_4 =>
  (cond (decide (e_4.Start < e_3.From)) (some true) ((idx rv.1 i).bind fun e_5 =>
  (idx rv.1 i).bind fun e_6 =>
  some (decide (e_5.Over < (wr (e_6.Start + e_3.Warm)))))).bind fun t_5 =>
  (cond t_5 (some true) ((idx rv.1 i).bind fun e_7 =>
  (idx (lives ++ [rv_10]) i).bind fun e_8 =>
  some (decide ((wr (e_7.Start + e_8)) < untilv)))).bind fun t_6 =>
  cond t_6
  (ext (some false))
  (cond (i == 0)
  (remontoirlaw08_SpareTrue_k2 i v4_0 (lives ++ [rv_10]) (bitsOp .or used (gshl 1 e.Machine)))
  ((idx rv.1 (wr (i - 1))).bind fun e_9 =>
  (idx sv.Machines e_9.Machine).bind fun e_10 =>
  (remontoirref00_To (wr (0 - e_10.Drift)) e_10.Drift).bind fun rv_11 =>
  (remontoirref00_At bits (wr (i + 3))).bind fun rv_12 =>
  (remontoirref00_From rv_11 rv_12).bind fun rv_13 =>
  (idx rv.1 i).bind fun e_11 =>
  (idx rv.1 (wr (i - 1))).bind fun e_12 =>
  (remontoirref00_To (wr (0 - e_3.Drift)) e_3.Drift).bind fun rv_14 =>
  (remontoirref00_At bits (wr (i + 5))).bind fun rv_15 =>
  (remontoirref00_From rv_14 rv_15).bind fun rv_16 =>
  (idx rv.1 i).bind fun e_13 =>
  (idx rv.1 i).bind fun e_14 =>
  (remontoirref00_Size (wr ((wr (rv_13 * (wr ((wr (e_11.Over - e_12.Start)) - e_10.Warm)))) - (wr (rv_16 * (wr ((wr (e_13.Over - e_14.Start)) - e_3.Warm))))))).bind fun rv_17 =>
  cond (decide (rv_17 > sv.Gap))
  (ext (some false))
  (remontoirlaw08_SpareTrue_k2 i v4_0 (lives ++ [rv_10]) (bitsOp .or used (gshl 1 e.Machine)))))
noncomputable def remontoirlaw08_SpareTrue_b1 (sv : SpareStore) (bits : (List Int)) (rv : ((List SpareTurn) × Int)) : (Bool × (List Int) × Int × Int) → Option ((Bool × (List Int) × Int × Int) ⊕ Bool)
 | (v4_0, lives, used, i) =>
  cond (decide (i < (rv.1.length : Int)))
  ((idx rv.1 i).bind fun e =>
  (remontoirref00_Lies e.Machine 0 (wr ((sv.Machines.length : Int) - 1))).bind fun rv_5 =>
  (cond (!rv_5) (some true) ((remontoirref00_In used e.Machine).bind fun rv_6 =>
  some rv_6)).bind fun t_2 =>
  (cond t_2 (some true) ((idx rv.1 i).bind fun e_1 =>
  (remontoirref00_Lies e_1.Start (-500) 500).bind fun rv_7 =>
  some (!rv_7))).bind fun t_3 =>
  (cond t_3 (some true) ((idx rv.1 i).bind fun e_2 =>
  (remontoirref00_Lies e_2.Over 0 (wr (sv.Hours - 1))).bind fun rv_8 =>
  some (!rv_8))).bind fun t_4 =>
  cond t_4
  (ext (some false))
  (if ¬ e.Machine < 0 then
  (idx sv.Machines e.Machine).bind fun e_3 =>
  (remontoirref00_At bits i).bind fun rv_9 =>
  (remontoirref00_From e_3.Life rv_9).bind fun rv_10 =>
  if lives.length + ([rv_10]).length ≤ lim then
  cond (decide ((wr (i + 1)) < (rv.1.length : Int)))
  ((idx rv.1 (wr (i + 1))).bind fun e_15 =>
  remontoirlaw08_SpareTrue_k3 sv bits rv v4_0 lives used i e e_3 rv_10 e_15.Over)
  (remontoirlaw08_SpareTrue_k3 sv bits rv v4_0 lives used i e e_3 rv_10 sv.Hours)
  else none
  else none))
  (ext ((spare_Silent sv rv.1 lives).bind fun rv_18 =>
  (cond ((rv_18.2 == 0) && ((rv_18.1.length : Int) == 0)) ((remontoirlaw08_works).bind fun rv_19 =>
  some rv_19) (some false)).bind fun t_7 =>
  some t_7))
noncomputable def remontoirlaw08_SpareTrue (sv : SpareStore) (bits : (List Int)) : Option Bool :=
  (spare_Plan sv).bind fun rv =>
  (remontoirlaw08_sound sv).bind fun rv_1 =>
  cond (!rv_1)
  ((cond ((rv.2 == 80) && ((rv.1.length : Int) == 0)) ((remontoirlaw08_works).bind fun rv_2 =>
  some rv_2) (some false)).bind fun t =>
  some t)
  (cond (rv.2 != 0)
  ((cond ((rv.2 == 4) && ((rv.1.length : Int) == 0)) ((remontoirlaw08_works).bind fun rv_3 =>
  some rv_3) (some false)).bind fun t_1 =>
  some t_1)
  ((spare_IsPlan sv rv.1).bind fun rv_4 =>
  cond ((((rv_4.2 != 0) || (!rv_4.1)) || ((rv.1.length : Int) == 0)) || (decide ((rv.1.length : Int) > (sv.Machines.length : Int))))
  (some false)
  (loopU (remontoirlaw08_SpareTrue_b1 sv bits rv) (false, ([] : List Int), 0, 0))))
theorem remontoirlaw08_SpareTrue_ok {w0 : World} {D0 : Stab} (hD : D0.on w0) (sv : SpareStore) (bits : (List Int)) {p : Option Addr} {c : Nat} {p_1 : Option Addr} {c_1 : Nat} (hs : SRc C_SpareMachine D0 sv.Machines p c) (hs_1 : SRc C_int D0 bits p_1 c_1) (hG : Glob D0) (out : Bool) (h : remontoirlaw08_SpareTrue sv bits = some out) : Calls Tryd.prog 7 [.agg #[.int .i64 sv.Hours, .int .i64 sv.Gap, .slice p sv.Machines.length c], .slice p_1 bits.length c_1].toArray w0 (RetP D0 w0 (.bool out)) := by
 refine enter _ 276 Tryd.func7 rfl Tryd.ntmps7 rfl fun a hF => ?_
 replace hF : Frm 276 [] [(0, .agg #[.int .i64 sv.Hours, .int .i64 sv.Gap, .slice p sv.Machines.length c]), (1, .slice p_1 bits.length c_1)] a := hF
 have hS := St.start hD
 unfold remontoirlaw08_SpareTrue at h
 refine seq ?_
 refine region ?_
 refine O.box (cs := [.int .i64 sv.Hours, .int .i64 sv.Gap, .slice p sv.Machines.length c]) 1 hF rfl rfl hS rfl fun b a w hF hS => ?_
 refine step hF (Y.assign hF rfl) rfl fun a hF => ?_
 refine nil (then_n ?_)
 refine seq ?_
 refine region ?_
 refine step hF (Y.loadNL 1 sz_24 hF rfl hS rfl rfl rfl) rfl fun a hF => ?_
 obtain ⟨rv, hx, h⟩ := bind_some h
 refine O.callS (us := [.agg #[.int .i64 sv.Hours, .int .i64 sv.Gap, .slice p sv.Machines.length c]]) ca_24 hF hS (spare_Plan_ok hS.stab sv hs hG rv hx) rfl rfl fun v Dv a w hR hlev hF hS => ?_
 replace hs := hs.mono hlev
 replace hs_1 := hs_1.mono hlev
 replace hG := hG.mono hlev
 obtain ⟨p_2, c_2, rfl, hs_2⟩ := hR
 refine step hF (Y.move hF rfl) rfl fun a hF => ?_
 refine step hF (Y.extract hF rfl rfl) rfl fun a hF => ?_
 refine step hF (Y.extract hF rfl rfl) rfl fun a hF => ?_
 refine step hF (Y.assign hF rfl) rfl fun a hF => ?_
 refine step hF (Y.assign hF rfl) rfl fun a hF => ?_
 refine nil (then_n ?_)
 refine seq ?_
 refine seq ?_
 refine region ?_
 refine step hF (Y.loadNL 1 sz_24 hF rfl hS rfl rfl rfl) rfl fun a hF => ?_
 obtain ⟨rv_1, hx_1, h⟩ := bind_some h
 refine O.callP (us := [.agg #[.int .i64 sv.Hours, .int .i64 sv.Gap, .slice p sv.Machines.length c]]) ca_34 hF hS (remontoirlaw08_sound_ok hS.stab sv hs rv_1 hx_1) rfl rfl fun a w hF hS => ?_
 refine step hF (Y.not hF rfl) rfl fun a hF => ?_
 refine nil (then_n ?_)
 refine cond_b hF rfl (fun hbv => ?_) (fun hbv => ?_)
 ·replace h := cond_t h hbv
  refine seq ?_
  refine region ?_
  refine step hF (Y.move hF rfl) rfl fun a hF => ?_
  refine step hF (Y.eql hF rfl rfl) rfl fun a hF => ?_
  refine step hF (Y.move hF rfl) rfl fun a hF => ?_
  refine join (N := 276) (rs := []) (w0 := w0) (D0 := D0) 4 (us := [(1, .slice p_1 bits.length c_1), (2, .pointer (some ⟨b, 0, none⟩)), (4, .bool false), (5, .slice p_2 rv.1.length c_2), (6, .int .i64 rv.2), (33, .bool ((rv.2 == 80) && ((rv.1.length : Int) == 0)))]) (ms := [(1, .cells b [.int .i64 sv.Hours, .int .i64 sv.Gap, .slice p sv.Machines.length c] 24)]) (D' := Dv) ?_ ?_
  ·rcases bcases (rv.2 == 80) with hbv_1 | hbv_1
   ·-- true
    refine guard_on hF rfl rfl hbv_1 ?_
    refine step hF (Y.move hF rfl) rfl fun a hF => ?_
    refine guard_on hF rfl rfl hbv_1 ?_
    refine step hF (Y.lenSl u_25 hF rfl) rfl fun a hF => ?_
    refine guard_on hF rfl rfl hbv_1 ?_
    refine step hF (Y.eql hF rfl rfl) rfl fun a hF => ?_
    refine step hF (Y.pick_t hF rfl hbv_1 rfl) rfl fun a hF => ?_
    exact nil (then_n ⟨hF.weak ⟨rfl, rfl, rfl, rfl, rfl, (by rw [hbv_1]; rfl), trivial⟩, hS.weak ⟨rfl, trivial⟩⟩)
   ·-- false
    refine guard_off hF rfl rfl hbv_1 rfl fun a hF => ?_
    refine guard_off hF rfl rfl hbv_1 rfl fun a hF => ?_
    refine guard_off hF rfl rfl hbv_1 rfl fun a hF => ?_
    refine step hF (Y.pick_f hF rfl hbv_1 rfl) rfl fun a hF => ?_
    exact nil (then_n ⟨hF.weak ⟨rfl, rfl, rfl, rfl, rfl, (by rw [hbv_1]; rfl), trivial⟩, hS.weak ⟨rfl, trivial⟩⟩)
  intro a w hF hS
  refine step hF (Y.move hF rfl) rfl fun a hF => ?_
  obtain ⟨t, ht, h⟩ := bind_some h
  refine join (N := 276) (rs := []) (w0 := w0) (D0 := D0) 2 (us := [(1, .slice p_1 bits.length c_1), (2, .pointer (some ⟨b, 0, none⟩)), (4, .bool false), (5, .slice p_2 rv.1.length c_2), (6, .int .i64 rv.2), (36, .bool t)]) (ms := [(1, .cells b [.int .i64 sv.Hours, .int .i64 sv.Gap, .slice p sv.Machines.length c] 24)]) (D' := Dv) ?_ ?_
  ·rcases bcases ((rv.2 == 80) && ((rv.1.length : Int) == 0)) with hbv_2 | hbv_2
   ·-- true
    replace h := cond_t ht hbv_2
    refine guard_on hF rfl rfl hbv_2 ?_
    obtain ⟨rv_2, hx_2, h⟩ := bind_some h
    refine O.callP (us := []) ca_21 hF hS (remontoirlaw08_works_ok hS.stab hG rv_2 hx_2) rfl rfl fun a w hF hS => ?_
    refine step hF (Y.pick_t hF rfl hbv_2 rfl) rfl fun a hF => ?_
    obtain rfl := some_inj h
    exact nil (then_n ⟨hF.weak ⟨rfl, rfl, rfl, rfl, rfl, rfl, trivial⟩, hS.weak ⟨rfl, trivial⟩⟩)
   ·-- false
    replace h := cond_f ht hbv_2
    refine guard_off hF rfl rfl hbv_2 rfl fun a hF => ?_
    refine step hF (Y.pick_f hF rfl hbv_2 rfl) rfl fun a hF => ?_
    obtain rfl := some_inj h
    exact nil (then_n ⟨hF.weak ⟨rfl, rfl, rfl, rfl, rfl, rfl, trivial⟩, hS.weak ⟨rfl, trivial⟩⟩)
  intro a w hF hS
  refine step hF (Y.assign hF rfl) rfl fun a hF => ?_
  refine nil (then_n ?_)
  refine ret_ (then_r ?_)
  obtain rfl := some_inj h
  exact leaveP Tryd.results7 hF hS (.cons (.tmp rfl) .nil) .nil rfl
 ·replace h := cond_f h hbv
  refine skip_ (then_n ?_)
  refine seq ?_
  refine seq ?_
  refine region ?_
  refine step hF (Y.move hF rfl) rfl fun a hF => ?_
  refine step hF (Y.neq hF rfl rfl) rfl fun a hF => ?_
  refine nil (then_n ?_)
  refine cond_b hF rfl (fun hbv_3 => ?_) (fun hbv_3 => ?_)
  ·replace h := cond_t h hbv_3
   refine seq ?_
   refine region ?_
   refine step hF (Y.move hF rfl) rfl fun a hF => ?_
   refine step hF (Y.eql hF rfl rfl) rfl fun a hF => ?_
   refine step hF (Y.move hF rfl) rfl fun a hF => ?_
   refine join (N := 276) (rs := []) (w0 := w0) (D0 := D0) 4 (us := [(1, .slice p_1 bits.length c_1), (2, .pointer (some ⟨b, 0, none⟩)), (4, .bool false), (5, .slice p_2 rv.1.length c_2), (45, .bool ((rv.2 == 4) && ((rv.1.length : Int) == 0)))]) (ms := [(1, .cells b [.int .i64 sv.Hours, .int .i64 sv.Gap, .slice p sv.Machines.length c] 24)]) (D' := Dv) ?_ ?_
   ·rcases bcases (rv.2 == 4) with hbv_4 | hbv_4
    ·-- true
     refine guard_on hF rfl rfl hbv_4 ?_
     refine step hF (Y.move hF rfl) rfl fun a hF => ?_
     refine guard_on hF rfl rfl hbv_4 ?_
     refine step hF (Y.lenSl u_25 hF rfl) rfl fun a hF => ?_
     refine guard_on hF rfl rfl hbv_4 ?_
     refine step hF (Y.eql hF rfl rfl) rfl fun a hF => ?_
     refine step hF (Y.pick_t hF rfl hbv_4 rfl) rfl fun a hF => ?_
     exact nil (then_n ⟨hF.weak ⟨rfl, rfl, rfl, rfl, (by rw [hbv_4]; rfl), trivial⟩, hS.weak ⟨rfl, trivial⟩⟩)
    ·-- false
     refine guard_off hF rfl rfl hbv_4 rfl fun a hF => ?_
     refine guard_off hF rfl rfl hbv_4 rfl fun a hF => ?_
     refine guard_off hF rfl rfl hbv_4 rfl fun a hF => ?_
     refine step hF (Y.pick_f hF rfl hbv_4 rfl) rfl fun a hF => ?_
     exact nil (then_n ⟨hF.weak ⟨rfl, rfl, rfl, rfl, (by rw [hbv_4]; rfl), trivial⟩, hS.weak ⟨rfl, trivial⟩⟩)
   intro a w hF hS
   refine step hF (Y.move hF rfl) rfl fun a hF => ?_
   obtain ⟨t_1, ht_1, h⟩ := bind_some h
   refine join (N := 276) (rs := []) (w0 := w0) (D0 := D0) 2 (us := [(1, .slice p_1 bits.length c_1), (2, .pointer (some ⟨b, 0, none⟩)), (4, .bool false), (5, .slice p_2 rv.1.length c_2), (48, .bool t_1)]) (ms := [(1, .cells b [.int .i64 sv.Hours, .int .i64 sv.Gap, .slice p sv.Machines.length c] 24)]) (D' := Dv) ?_ ?_
   ·rcases bcases ((rv.2 == 4) && ((rv.1.length : Int) == 0)) with hbv_5 | hbv_5
    ·-- true
     replace h := cond_t ht_1 hbv_5
     refine guard_on hF rfl rfl hbv_5 ?_
     obtain ⟨rv_3, hx_3, h⟩ := bind_some h
     refine O.callP (us := []) ca_21 hF hS (remontoirlaw08_works_ok hS.stab hG rv_3 hx_3) rfl rfl fun a w hF hS => ?_
     refine step hF (Y.pick_t hF rfl hbv_5 rfl) rfl fun a hF => ?_
     obtain rfl := some_inj h
     exact nil (then_n ⟨hF.weak ⟨rfl, rfl, rfl, rfl, rfl, trivial⟩, hS.weak ⟨rfl, trivial⟩⟩)
    ·-- false
     replace h := cond_f ht_1 hbv_5
     refine guard_off hF rfl rfl hbv_5 rfl fun a hF => ?_
     refine step hF (Y.pick_f hF rfl hbv_5 rfl) rfl fun a hF => ?_
     obtain rfl := some_inj h
     exact nil (then_n ⟨hF.weak ⟨rfl, rfl, rfl, rfl, rfl, trivial⟩, hS.weak ⟨rfl, trivial⟩⟩)
   intro a w hF hS
   refine step hF (Y.assign hF rfl) rfl fun a hF => ?_
   refine nil (then_n ?_)
   refine ret_ (then_r ?_)
   obtain rfl := some_inj h
   exact leaveP Tryd.results7 hF hS (.cons (.tmp rfl) .nil) .nil rfl
  ·replace h := cond_f h hbv_3
   refine skip_ (then_n ?_)
   refine seq ?_
   refine region ?_
   refine step hF (Y.loadNL 1 sz_24 hF rfl hS rfl rfl rfl) rfl fun a hF => ?_
   refine step hF (Y.move hF rfl) rfl fun a hF => ?_
   obtain ⟨rv_4, hx_4, h⟩ := bind_some h
   refine O.callP (us := [.agg #[.int .i64 sv.Hours, .int .i64 sv.Gap, .slice p sv.Machines.length c], .slice p_2 rv.1.length c_2]) ca_19 hF hS (spare_IsPlan_ok hS.stab sv rv.1 hs hs_2 rv_4 hx_4) rfl rfl fun a w hF hS => ?_
   refine step hF (Y.move hF rfl) rfl fun a hF => ?_
   refine step hF (Y.extract hF rfl rfl) rfl fun a hF => ?_
   refine step hF (Y.extract hF rfl rfl) rfl fun a hF => ?_
   refine step hF (Y.assign hF rfl) rfl fun a hF => ?_
   refine step hF (Y.assign hF rfl) rfl fun a hF => ?_
   refine nil (then_n ?_)
   refine seq ?_
   refine seq ?_
   refine region ?_
   refine step hF (Y.move hF rfl) rfl fun a hF => ?_
   refine step hF (Y.neq hF rfl rfl) rfl fun a hF => ?_
   refine step hF (Y.move hF rfl) rfl fun a hF => ?_
   refine join (N := 276) (rs := []) (w0 := w0) (D0 := D0) 3 (us := [(1, .slice p_1 bits.length c_1), (2, .pointer (some ⟨b, 0, none⟩)), (4, .bool false), (5, .slice p_2 rv.1.length c_2), (8, .int .i64 rv_4.2), (60, .bool ((rv_4.2 != 0) || (!rv_4.1)))]) (ms := [(1, .cells b [.int .i64 sv.Hours, .int .i64 sv.Gap, .slice p sv.Machines.length c] 24)]) (D' := Dv) ?_ ?_
   ·rcases bcases (rv_4.2 != 0) with hbv_6 | hbv_6
    ·-- true
     refine guard_off hF rfl rfl hbv_6 rfl fun a hF => ?_
     refine guard_off hF rfl rfl hbv_6 rfl fun a hF => ?_
     refine step hF (Y.pick_t hF rfl hbv_6 rfl) rfl fun a hF => ?_
     exact nil (then_n ⟨hF.weak ⟨rfl, rfl, rfl, rfl, rfl, (by rw [hbv_6]; rfl), trivial⟩, hS.weak ⟨rfl, trivial⟩⟩)
    ·-- false
     refine guard_on hF rfl rfl hbv_6 ?_
     refine step hF (Y.move hF rfl) rfl fun a hF => ?_
     refine guard_on hF rfl rfl hbv_6 ?_
     refine step hF (Y.not hF rfl) rfl fun a hF => ?_
     refine step hF (Y.pick_f hF rfl hbv_6 rfl) rfl fun a hF => ?_
     exact nil (then_n ⟨hF.weak ⟨rfl, rfl, rfl, rfl, rfl, (by rw [hbv_6]; rfl), trivial⟩, hS.weak ⟨rfl, trivial⟩⟩)
   intro a w hF hS
   refine step hF (Y.move hF rfl) rfl fun a hF => ?_
   refine join (N := 276) (rs := []) (w0 := w0) (D0 := D0) 4 (us := [(1, .slice p_1 bits.length c_1), (2, .pointer (some ⟨b, 0, none⟩)), (4, .bool false), (5, .slice p_2 rv.1.length c_2), (8, .int .i64 rv_4.2), (65, .bool (((rv_4.2 != 0) || (!rv_4.1)) || ((rv.1.length : Int) == 0)))]) (ms := [(1, .cells b [.int .i64 sv.Hours, .int .i64 sv.Gap, .slice p sv.Machines.length c] 24)]) (D' := Dv) ?_ ?_
   ·rcases bcases ((rv_4.2 != 0) || (!rv_4.1)) with hbv_7 | hbv_7
    ·-- true
     refine guard_off hF rfl rfl hbv_7 rfl fun a hF => ?_
     refine guard_off hF rfl rfl hbv_7 rfl fun a hF => ?_
     refine guard_off hF rfl rfl hbv_7 rfl fun a hF => ?_
     refine step hF (Y.pick_t hF rfl hbv_7 rfl) rfl fun a hF => ?_
     exact nil (then_n ⟨hF.weak ⟨rfl, rfl, rfl, rfl, rfl, (by rw [hbv_7]; rfl), trivial⟩, hS.weak ⟨rfl, trivial⟩⟩)
    ·-- false
     refine guard_on hF rfl rfl hbv_7 ?_
     refine step hF (Y.move hF rfl) rfl fun a hF => ?_
     refine guard_on hF rfl rfl hbv_7 ?_
     refine step hF (Y.lenSl u_25 hF rfl) rfl fun a hF => ?_
     refine guard_on hF rfl rfl hbv_7 ?_
     refine step hF (Y.eql hF rfl rfl) rfl fun a hF => ?_
     refine step hF (Y.pick_f hF rfl hbv_7 rfl) rfl fun a hF => ?_
     exact nil (then_n ⟨hF.weak ⟨rfl, rfl, rfl, rfl, rfl, (by rw [hbv_7]; rfl), trivial⟩, hS.weak ⟨rfl, trivial⟩⟩)
   intro a w hF hS
   refine step hF (Y.move hF rfl) rfl fun a hF => ?_
   refine join (N := 276) (rs := []) (w0 := w0) (D0 := D0) 7 (us := [(1, .slice p_1 bits.length c_1), (2, .pointer (some ⟨b, 0, none⟩)), (4, .bool false), (5, .slice p_2 rv.1.length c_2), (8, .int .i64 rv_4.2), (73, .bool ((((rv_4.2 != 0) || (!rv_4.1)) || ((rv.1.length : Int) == 0)) || (decide ((rv.1.length : Int) > (sv.Machines.length : Int)))))]) (ms := [(1, .cells b [.int .i64 sv.Hours, .int .i64 sv.Gap, .slice p sv.Machines.length c] 24)]) (D' := Dv) ?_ ?_
   ·rcases bcases (((rv_4.2 != 0) || (!rv_4.1)) || ((rv.1.length : Int) == 0)) with hbv_8 | hbv_8
    ·-- true
     refine guard_off hF rfl rfl hbv_8 rfl fun a hF => ?_
     refine guard_off hF rfl rfl hbv_8 rfl fun a hF => ?_
     refine guard_off hF rfl rfl hbv_8 rfl fun a hF => ?_
     refine guard_off hF rfl rfl hbv_8 rfl fun a hF => ?_
     refine guard_off hF rfl rfl hbv_8 rfl fun a hF => ?_
     refine guard_off hF rfl rfl hbv_8 rfl fun a hF => ?_
     refine step hF (Y.pick_t hF rfl hbv_8 rfl) rfl fun a hF => ?_
     exact nil (then_n ⟨hF.weak ⟨rfl, rfl, rfl, rfl, rfl, (by rw [hbv_8]; rfl), trivial⟩, hS.weak ⟨rfl, trivial⟩⟩)
    ·-- false
     refine guard_on hF rfl rfl hbv_8 ?_
     refine step hF (Y.move hF rfl) rfl fun a hF => ?_
     refine guard_on hF rfl rfl hbv_8 ?_
     refine step hF (Y.lenSl u_25 hF rfl) rfl fun a hF => ?_
     refine guard_on hF rfl rfl hbv_8 ?_
     refine step hF (Y.fieldAddr fo_24_2 hF rfl) rfl fun a hF => ?_
     refine guard_on hF rfl rfl hbv_8 ?_
     refine step hF (Y.load1L 1 sz_22 hF rfl hS rfl rfl) rfl fun a hF => ?_
     refine guard_on hF rfl rfl hbv_8 ?_
     refine step hF (Y.lenSl u_22 hF rfl) rfl fun a hF => ?_
     refine guard_on hF rfl rfl hbv_8 ?_
     refine step hF (Y.gtr hF rfl rfl) rfl fun a hF => ?_
     refine step hF (Y.pick_f hF rfl hbv_8 rfl) rfl fun a hF => ?_
     exact nil (then_n ⟨hF.weak ⟨rfl, rfl, rfl, rfl, rfl, (by rw [hbv_8]; rfl), trivial⟩, hS.weak ⟨rfl, trivial⟩⟩)
   intro a w hF hS
   refine nil (then_n ?_)
   refine cond_b hF rfl (fun hbv_9 => ?_) (fun hbv_9 => ?_)
   ·replace h := cond_t h hbv_9
    refine seq ?_
    refine region ?_
    refine step hF (Y.assign hF rfl) rfl fun a hF => ?_
    refine nil (then_n ?_)
    refine ret_ (then_r ?_)
    obtain rfl := some_inj h
    exact leaveP Tryd.results7 hF hS (.cons (.tmp rfl) .nil) .nil rfl
   ·replace h := cond_f h hbv_9
    refine skip_ (then_n ?_)
    refine seq ?_
    refine region ?_
    refine step hF (Y.assign hF rfl) rfl fun a hF => ?_
    replace hS := hS.ownNil 2 3 1
    refine nil (then_n ?_)
    refine seq ?_
    refine region ?_
    refine step hF (Y.assign hF rfl) rfl fun a hF => ?_
    refine nil (then_n ?_)
    refine seq ?_
    refine seq ?_
    refine region ?_
    refine step hF (Y.assign hF rfl) rfl fun a hF => ?_
    refine nil (then_n ?_)
    refine block ?_
    refine loop_cut (body := remontoirlaw08_SpareTrue_b1 sv bits rv) (out := out) (fun s a w => ∃ (v4_0 : Bool) (lives : (List Int)) (used : Int) (i : Int), ∃ (Dv_1 : Stab), ∃ p_3 c_3 cs, s = (v4_0, lives, used, i) ∧ Dv.le Dv_1 ∧ Frm 276 [] [(1, .slice p_1 bits.length c_1), (2, .pointer (some ⟨b, 0, none⟩)), (4, .bool v4_0), (5, .slice p_2 rv.1.length c_2), (8, .int .i64 rv_4.2), (9, .slice p_3 lives.length c_3), (10, .int .i64 used), (11, .int .i64 i)] a ∧ St w0 D0 Dv_1 [(1, .cells b [.int .i64 sv.Hours, .int .i64 sv.Gap, .slice p sv.Machines.length c] 24), (2, .own p_3 lives.length c_3 cs 3 1)] w ∧ Reps C_int Dv_1 lives cs) (false, ([] : List Int), 0, 0) h ⟨false, ([] : List Int), 0, 0, Dv, none, 0, ([]), rfl, Stab.le.refl _, hF.weak ⟨rfl, rfl, rfl, rfl, rfl, rfl, rfl, rfl, trivial⟩, hS.weak ⟨rfl, rfl, trivial⟩, Reps.nil⟩ ?_
    rintro s a w xo ⟨v4_0, lives, used, i, Dv_1, p_3, c_3, cs, rfl, hlev_1, hF, hS, hr⟩ h hxo
    unfold remontoirlaw08_SpareTrue_b1 at h
    dsimp only at h
    replace hs := hs.mono hlev_1
    replace hs_1 := hs_1.mono hlev_1
    replace hG := hG.mono hlev_1
    replace hs_2 := hs_2.mono hlev_1
    refine seq ?_
    refine seq ?_
    refine region ?_
    refine step hF (Y.move hF rfl) rfl fun a hF => ?_
    refine step hF (Y.move hF rfl) rfl fun a hF => ?_
    refine step hF (Y.lenSl u_25 hF rfl) rfl fun a hF => ?_
    refine step hF (Y.lss hF rfl rfl) rfl fun a hF => ?_
    refine nil (then_n ?_)
    refine cond_b hF rfl (fun hbv_10 => ?_) (fun hbv_10 => ?_)
    ·replace h := cond_t h hbv_10
     refine skip_ (then_n ?_)
     refine seq_cut (fun a w => ∃ (v4_1 : Bool) (lives_1 : (List Int)) (used_1 : Int), ∃ (Dv_2 : Stab), ∃ p_4 c_4 cs_1, Dv_1.le Dv_2 ∧ Frm 276 [] [(1, .slice p_1 bits.length c_1), (2, .pointer (some ⟨b, 0, none⟩)), (4, .bool v4_1), (5, .slice p_2 rv.1.length c_2), (8, .int .i64 rv_4.2), (9, .slice p_4 lives_1.length c_4), (10, .int .i64 used_1), (11, .int .i64 i)] a ∧ St w0 D0 Dv_2 [(1, .cells b [.int .i64 sv.Hours, .int .i64 sv.Gap, .slice p sv.Machines.length c] 24), (2, .own p_4 lives_1.length c_4 cs_1 3 1)] w ∧ Reps C_int Dv_2 lives_1 cs_1 ∧ remontoirlaw08_SpareTrue_k2 i v4_1 lives_1 used_1 = some xo) ?_ ?_
     ·skip
      refine block ?_
      refine seq ?_
      refine region ?_
      refine step hF (Y.move hF rfl) rfl fun a hF => ?_
      refine step hF (Y.move hF rfl) rfl fun a hF => ?_
      obtain ⟨e, hx_5, h⟩ := bind_some h
      obtain ⟨b_1, o, hE, hY⟩ := Y.indexS (P := Tryd.prog) (C := C_SpareTurn) (xs := rv.1) (T := 25) (x := (.tmp 80)) (y := (.tmp 81)) u_25 sz_46 hF rfl rfl (hs_2).1 hx_5
      obtain ⟨cc, hc, hcell⟩ := hE.open
      obtain rfl := C_SpareTurn.open hc
      refine step hF (hY) rfl fun a hF => ?_
      refine step hF (Y.fieldAddr fo_46_0 hF rfl) rfl fun a hF => ?_
      refine step hF (Y.load1 sz_3 hF rfl (hcell _ hS.stab 0 _ rfl)) rfl fun a hF => ?_
      refine step hF (Y.assign hF rfl) rfl fun a hF => ?_
      refine nil (then_n ?_)
      refine seq ?_
      refine seq ?_
      obtain ⟨rv_5, hx_6, h⟩ := bind_some h
      obtain ⟨t_2, ht_2, h⟩ := bind_some h
      obtain ⟨t_3, ht_3, h⟩ := bind_some h
      obtain ⟨t_4, ht_4, h⟩ := bind_some h
      refine drawsV 33 (.flt 0 (.flt 1 (.flt 2 (.flt 3 (.flt 4 (.alt 5 (.flt 6 (.flt 7 (.flt 8 (.flt 9 (.alt 10 (.flt 11 (.flt 12 (.flt 13 (.flt 14 (.flt 15 (.flt 16 (.flt 17 (.alt 18 (.flt 19 (.flt 20 (.flt 21 (.flt 22 (.flt 23 (.flt 24 (.flt 25 (.flt 26 (.flt 27 (.flt 28 (.flt 29 (.alt 30 (.flt 31 (.flt 32 .done)) .stop)))))))))))) .stop)))))))) .stop))))) .stop)))))) mixed_ (by kernel_rfl) (fun w => St w0 D0 Dv_1 [(1, .cells b [.int .i64 sv.Hours, .int .i64 sv.Gap, .slice p sv.Machines.length c] 24), (2, .own p_3 lives.length c_3 cs 3 1)] w) (fun a w => Frm 276 [] [(1, .slice p_1 bits.length c_1), (2, .pointer (some ⟨b, 0, none⟩)), (4, .bool v4_0), (5, .slice p_2 rv.1.length c_2), (8, .int .i64 rv_4.2), (9, .slice p_3 lives.length c_3), (10, .int .i64 used), (11, .int .i64 i), (12, .int .i64 e.Machine), (117, .bool t_4)] a ∧ St w0 D0 Dv_1 [(1, .cells b [.int .i64 sv.Hours, .int .i64 sv.Gap, .slice p sv.Machines.length c] 24), (2, .own p_3 lives.length c_3 cs 3 1)] w) (hS.weak (ms := [(1, .cells b [.int .i64 sv.Hours, .int .i64 sv.Gap, .slice p sv.Machines.length c] 24), (2, .own p_3 lives.length c_3 cs 3 1)]) ⟨rfl, rfl, trivial⟩).drew (fun _ _ _ _ h => h) ?_ ?_
      ·replace hS := hS.drew
       have hle0 := hS.le
       rcases bcases (!rv_5) with hbv_11 | hbv_11
       ·skip
        replace ht_2 := cond_t ht_2 hbv_11
        obtain rfl := some_inj ht_2
        replace ht_3 := cond_t ht_3 rfl
        obtain rfl := some_inj ht_3
        replace ht_4 := cond_t ht_4 rfl
        obtain rfl := some_inj ht_4
        refine stepV (i := 0) rfl hF (fun w hS => Y.move hF rfl) rfl fun a hF => ?_
        refine stepV (i := 1) rfl hF (fun w hS => Y.fieldAddr fo_24_2 hF rfl) rfl fun a hF => ?_
        refine stepV (i := 2) rfl hF (fun w hS => Y.load1L 1 sz_22 hF rfl hS rfl rfl) rfl fun a hF => ?_
        refine stepV (i := 3) rfl hF (fun w hS => Y.lenSl u_22 hF rfl) rfl fun a hF => ?_
        refine stepV (i := 4) rfl hF (fun w hS => Y.sub hF rfl rfl) rfl fun a hF => ?_
        refine oneV (i := 5) rfl ?_ trivial
        refine O.callP (us := [.int .i64 e.Machine, .int .i64 0, .int .i64 (wr ((sv.Machines.length : Int) - 1))]) ca_35 hF hS (remontoirref00_Lies_ok hS.stab e.Machine 0 (wr ((sv.Machines.length : Int) - 1)) rv_5 hx_6) rfl rfl fun a w hF hS => ?_
        refine nil (then_n ⟨hS.weak ⟨rfl, rfl, trivial⟩, ?_⟩)
        refine stepV (i := 6) rfl hF (fun w hS => Y.not hF rfl) rfl fun a hF => ?_
        refine stepV (i := 7) rfl hF (fun w hS => Y.move hF rfl) rfl fun a hF => ?_
        refine stepV_off (i := 8) rfl hF rfl rfl hbv_11 rfl fun a hF => ?_
        refine stepV_off (i := 9) rfl hF rfl rfl hbv_11 rfl fun a hF => ?_
        refine oneV (i := 10) rfl ?_ trivial
        refine guard_off hF rfl rfl hbv_11 rfl fun a hF => nil (then_n ⟨hS.weak ⟨rfl, rfl, trivial⟩, ?_⟩)
        refine stepV (i := 11) rfl hF (fun w hS => Y.pick_t hF rfl hbv_11 rfl) rfl fun a hF => ?_
        refine stepV (i := 12) rfl hF (fun w hS => Y.move hF rfl) rfl fun a hF => ?_
        refine stepV_off (i := 13) rfl hF rfl rfl rfl rfl fun a hF => ?_
        refine stepV_off (i := 14) rfl hF rfl rfl rfl rfl fun a hF => ?_
        refine stepV_off (i := 15) rfl hF rfl rfl rfl rfl fun a hF => ?_
        refine stepV_off (i := 16) rfl hF rfl rfl rfl rfl fun a hF => ?_
        refine stepV_off (i := 17) rfl hF rfl rfl rfl rfl fun a hF => ?_
        refine oneV (i := 18) rfl ?_ trivial
        refine guard_off hF rfl rfl rfl rfl fun a hF => nil (then_n ⟨hS.weak ⟨rfl, rfl, trivial⟩, ?_⟩)
        refine stepV_off (i := 19) rfl hF rfl rfl rfl rfl fun a hF => ?_
        refine stepV (i := 20) rfl hF (fun w hS => Y.pick_t hF rfl rfl rfl) rfl fun a hF => ?_
        refine stepV (i := 21) rfl hF (fun w hS => Y.move hF rfl) rfl fun a hF => ?_
        refine stepV_off (i := 22) rfl hF rfl rfl rfl rfl fun a hF => ?_
        refine stepV_off (i := 23) rfl hF rfl rfl rfl rfl fun a hF => ?_
        refine stepV_off (i := 24) rfl hF rfl rfl rfl rfl fun a hF => ?_
        refine stepV_off (i := 25) rfl hF rfl rfl rfl rfl fun a hF => ?_
        refine stepV_off (i := 26) rfl hF rfl rfl rfl rfl fun a hF => ?_
        refine stepV_off (i := 27) rfl hF rfl rfl rfl rfl fun a hF => ?_
        refine stepV_off (i := 28) rfl hF rfl rfl rfl rfl fun a hF => ?_
        refine stepV_off (i := 29) rfl hF rfl rfl rfl rfl fun a hF => ?_
        refine oneV (i := 30) rfl ?_ trivial
        refine guard_off hF rfl rfl rfl rfl fun a hF => nil (then_n ⟨hS.weak ⟨rfl, rfl, trivial⟩, ?_⟩)
        refine stepV_off (i := 31) rfl hF rfl rfl rfl rfl fun a hF => ?_
        refine stepV (i := 32) rfl hF (fun w hS => Y.pick_t hF rfl rfl rfl) rfl fun a hF => ?_
        exact toTailV ⟨hF.weak ⟨rfl, rfl, rfl, rfl, rfl, rfl, rfl, rfl, rfl, rfl, trivial⟩, hS.weak ⟨rfl, rfl, trivial⟩⟩
       ·skip
        replace ht_2 := cond_f ht_2 hbv_11
        obtain ⟨rv_6, hx_7, ht_2⟩ := bind_some ht_2
        obtain rfl := some_inj ht_2
        rcases bcases rv_6 with hbv_12 | hbv_12
        ·skip
         replace ht_3 := cond_t ht_3 hbv_12
         obtain rfl := some_inj ht_3
         replace ht_4 := cond_t ht_4 rfl
         obtain rfl := some_inj ht_4
         refine stepV (i := 0) rfl hF (fun w hS => Y.move hF rfl) rfl fun a hF => ?_
         refine stepV (i := 1) rfl hF (fun w hS => Y.fieldAddr fo_24_2 hF rfl) rfl fun a hF => ?_
         refine stepV (i := 2) rfl hF (fun w hS => Y.load1L 1 sz_22 hF rfl hS rfl rfl) rfl fun a hF => ?_
         refine stepV (i := 3) rfl hF (fun w hS => Y.lenSl u_22 hF rfl) rfl fun a hF => ?_
         refine stepV (i := 4) rfl hF (fun w hS => Y.sub hF rfl rfl) rfl fun a hF => ?_
         refine oneV (i := 5) rfl ?_ trivial
         refine O.callP (us := [.int .i64 e.Machine, .int .i64 0, .int .i64 (wr ((sv.Machines.length : Int) - 1))]) ca_35 hF hS (remontoirref00_Lies_ok hS.stab e.Machine 0 (wr ((sv.Machines.length : Int) - 1)) rv_5 hx_6) rfl rfl fun a w hF hS => ?_
         refine nil (then_n ⟨hS.weak ⟨rfl, rfl, trivial⟩, ?_⟩)
         refine stepV (i := 6) rfl hF (fun w hS => Y.not hF rfl) rfl fun a hF => ?_
         refine stepV (i := 7) rfl hF (fun w hS => Y.move hF rfl) rfl fun a hF => ?_
         refine stepV_on (i := 8) rfl hF rfl rfl hbv_11 (fun w hS => Y.move hF rfl) rfl fun a hF => ?_
         refine stepV_on (i := 9) rfl hF rfl rfl hbv_11 (fun w hS => Y.move hF rfl) rfl fun a hF => ?_
         refine oneV (i := 10) rfl ?_ trivial
         refine guard_on hF rfl rfl hbv_11 ?_
         refine O.callP (us := [.int .i64 used, .int .i64 e.Machine]) ca_36 hF hS (remontoirref00_In_ok hS.stab used e.Machine rv_6 hx_7) rfl rfl fun a w hF hS => ?_
         refine nil (then_n ⟨hS.weak ⟨rfl, rfl, trivial⟩, ?_⟩)
         refine stepV (i := 11) rfl hF (fun w hS => Y.pick_f hF rfl hbv_11 rfl) rfl fun a hF => ?_
         refine stepV (i := 12) rfl hF (fun w hS => Y.move hF rfl) rfl fun a hF => ?_
         refine stepV_off (i := 13) rfl hF rfl rfl hbv_12 rfl fun a hF => ?_
         refine stepV_off (i := 14) rfl hF rfl rfl hbv_12 rfl fun a hF => ?_
         refine stepV_off (i := 15) rfl hF rfl rfl hbv_12 rfl fun a hF => ?_
         refine stepV_off (i := 16) rfl hF rfl rfl hbv_12 rfl fun a hF => ?_
         refine stepV_off (i := 17) rfl hF rfl rfl hbv_12 rfl fun a hF => ?_
         refine oneV (i := 18) rfl ?_ trivial
         refine guard_off hF rfl rfl hbv_12 rfl fun a hF => nil (then_n ⟨hS.weak ⟨rfl, rfl, trivial⟩, ?_⟩)
         refine stepV_off (i := 19) rfl hF rfl rfl hbv_12 rfl fun a hF => ?_
         refine stepV (i := 20) rfl hF (fun w hS => Y.pick_t hF rfl hbv_12 rfl) rfl fun a hF => ?_
         refine stepV (i := 21) rfl hF (fun w hS => Y.move hF rfl) rfl fun a hF => ?_
         refine stepV_off (i := 22) rfl hF rfl rfl rfl rfl fun a hF => ?_
         refine stepV_off (i := 23) rfl hF rfl rfl rfl rfl fun a hF => ?_
         refine stepV_off (i := 24) rfl hF rfl rfl rfl rfl fun a hF => ?_
         refine stepV_off (i := 25) rfl hF rfl rfl rfl rfl fun a hF => ?_
         refine stepV_off (i := 26) rfl hF rfl rfl rfl rfl fun a hF => ?_
         refine stepV_off (i := 27) rfl hF rfl rfl rfl rfl fun a hF => ?_
         refine stepV_off (i := 28) rfl hF rfl rfl rfl rfl fun a hF => ?_
         refine stepV_off (i := 29) rfl hF rfl rfl rfl rfl fun a hF => ?_
         refine oneV (i := 30) rfl ?_ trivial
         refine guard_off hF rfl rfl rfl rfl fun a hF => nil (then_n ⟨hS.weak ⟨rfl, rfl, trivial⟩, ?_⟩)
         refine stepV_off (i := 31) rfl hF rfl rfl rfl rfl fun a hF => ?_
         refine stepV (i := 32) rfl hF (fun w hS => Y.pick_t hF rfl rfl rfl) rfl fun a hF => ?_
         exact toTailV ⟨hF.weak ⟨rfl, rfl, rfl, rfl, rfl, rfl, rfl, rfl, rfl, rfl, trivial⟩, hS.weak ⟨rfl, rfl, trivial⟩⟩
        ·skip
         replace ht_3 := cond_f ht_3 hbv_12
         obtain ⟨e_1, hx_8, ht_3⟩ := bind_some ht_3
         obtain ⟨rv_7, hx_9, ht_3⟩ := bind_some ht_3
         obtain rfl := some_inj ht_3
         rcases bcases (!rv_7) with hbv_13 | hbv_13
         ·skip
          replace ht_4 := cond_t ht_4 hbv_13
          obtain rfl := some_inj ht_4
          refine stepV (i := 0) rfl hF (fun w hS => Y.move hF rfl) rfl fun a hF => ?_
          refine stepV (i := 1) rfl hF (fun w hS => Y.fieldAddr fo_24_2 hF rfl) rfl fun a hF => ?_
          refine stepV (i := 2) rfl hF (fun w hS => Y.load1L 1 sz_22 hF rfl hS rfl rfl) rfl fun a hF => ?_
          refine stepV (i := 3) rfl hF (fun w hS => Y.lenSl u_22 hF rfl) rfl fun a hF => ?_
          refine stepV (i := 4) rfl hF (fun w hS => Y.sub hF rfl rfl) rfl fun a hF => ?_
          refine oneV (i := 5) rfl ?_ trivial
          refine O.callP (us := [.int .i64 e.Machine, .int .i64 0, .int .i64 (wr ((sv.Machines.length : Int) - 1))]) ca_35 hF hS (remontoirref00_Lies_ok hS.stab e.Machine 0 (wr ((sv.Machines.length : Int) - 1)) rv_5 hx_6) rfl rfl fun a w hF hS => ?_
          refine nil (then_n ⟨hS.weak ⟨rfl, rfl, trivial⟩, ?_⟩)
          refine stepV (i := 6) rfl hF (fun w hS => Y.not hF rfl) rfl fun a hF => ?_
          refine stepV (i := 7) rfl hF (fun w hS => Y.move hF rfl) rfl fun a hF => ?_
          refine stepV_on (i := 8) rfl hF rfl rfl hbv_11 (fun w hS => Y.move hF rfl) rfl fun a hF => ?_
          refine stepV_on (i := 9) rfl hF rfl rfl hbv_11 (fun w hS => Y.move hF rfl) rfl fun a hF => ?_
          refine oneV (i := 10) rfl ?_ trivial
          refine guard_on hF rfl rfl hbv_11 ?_
          refine O.callP (us := [.int .i64 used, .int .i64 e.Machine]) ca_36 hF hS (remontoirref00_In_ok hS.stab used e.Machine rv_6 hx_7) rfl rfl fun a w hF hS => ?_
          refine nil (then_n ⟨hS.weak ⟨rfl, rfl, trivial⟩, ?_⟩)
          refine stepV (i := 11) rfl hF (fun w hS => Y.pick_f hF rfl hbv_11 rfl) rfl fun a hF => ?_
          refine stepV (i := 12) rfl hF (fun w hS => Y.move hF rfl) rfl fun a hF => ?_
          refine stepV_on (i := 13) rfl hF rfl rfl hbv_12 (fun w hS => Y.move hF rfl) rfl fun a hF => ?_
          refine stepV_on (i := 14) rfl hF rfl rfl hbv_12 (fun w hS => Y.move hF rfl) rfl fun a hF => ?_
          obtain ⟨b_4, o_3, hE_3, hY_3⟩ := Y.indexS (P := Tryd.prog) (C := C_SpareTurn) (xs := rv.1) (T := 25) (x := (.tmp 98)) (y := (.tmp 99)) u_25 sz_46 hF rfl rfl (hs_2).1 hx_8
          obtain ⟨cc_3, hc_3, hcell_3⟩ := hE_3.open
          obtain rfl := C_SpareTurn.open hc_3
          refine stepV_on (i := 15) rfl hF rfl rfl hbv_12 (fun w hS => hY_3) rfl fun a hF => ?_
          refine stepV_on (i := 16) rfl hF rfl rfl hbv_12 (fun w hS => Y.fieldAddr fo_46_1 hF rfl) rfl fun a hF => ?_
          refine stepV_on (i := 17) rfl hF rfl rfl hbv_12 (fun w hS => Y.load1 sz_3 hF rfl (hcell_3 _ hS.stab 1 _ rfl)) rfl fun a hF => ?_
          refine oneV (i := 18) rfl ?_ trivial
          refine guard_on hF rfl rfl hbv_12 ?_
          refine O.callP (us := [.int .i64 e_1.Start, .int .i64 (-500), .int .i64 500]) ca_35 hF hS (remontoirref00_Lies_ok hS.stab e_1.Start (-500) 500 rv_7 hx_9) rfl rfl fun a w hF hS => ?_
          refine nil (then_n ⟨hS.weak ⟨rfl, rfl, trivial⟩, ?_⟩)
          refine stepV_on (i := 19) rfl hF rfl rfl hbv_12 (fun w hS => Y.not hF rfl) rfl fun a hF => ?_
          refine stepV (i := 20) rfl hF (fun w hS => Y.pick_f hF rfl hbv_12 rfl) rfl fun a hF => ?_
          refine stepV (i := 21) rfl hF (fun w hS => Y.move hF rfl) rfl fun a hF => ?_
          refine stepV_off (i := 22) rfl hF rfl rfl hbv_13 rfl fun a hF => ?_
          refine stepV_off (i := 23) rfl hF rfl rfl hbv_13 rfl fun a hF => ?_
          refine stepV_off (i := 24) rfl hF rfl rfl hbv_13 rfl fun a hF => ?_
          refine stepV_off (i := 25) rfl hF rfl rfl hbv_13 rfl fun a hF => ?_
          refine stepV_off (i := 26) rfl hF rfl rfl hbv_13 rfl fun a hF => ?_
          refine stepV_off (i := 27) rfl hF rfl rfl hbv_13 rfl fun a hF => ?_
          refine stepV_off (i := 28) rfl hF rfl rfl hbv_13 rfl fun a hF => ?_
          refine stepV_off (i := 29) rfl hF rfl rfl hbv_13 rfl fun a hF => ?_
          refine oneV (i := 30) rfl ?_ trivial
          refine guard_off hF rfl rfl hbv_13 rfl fun a hF => nil (then_n ⟨hS.weak ⟨rfl, rfl, trivial⟩, ?_⟩)
          refine stepV_off (i := 31) rfl hF rfl rfl hbv_13 rfl fun a hF => ?_
          refine stepV (i := 32) rfl hF (fun w hS => Y.pick_t hF rfl hbv_13 rfl) rfl fun a hF => ?_
          exact toTailV ⟨hF.weak ⟨rfl, rfl, rfl, rfl, rfl, rfl, rfl, rfl, rfl, rfl, trivial⟩, hS.weak ⟨rfl, rfl, trivial⟩⟩
         ·skip
          replace ht_4 := cond_f ht_4 hbv_13
          obtain ⟨e_2, hx_10, ht_4⟩ := bind_some ht_4
          obtain ⟨rv_8, hx_11, ht_4⟩ := bind_some ht_4
          obtain rfl := some_inj ht_4
          refine stepV (i := 0) rfl hF (fun w hS => Y.move hF rfl) rfl fun a hF => ?_
          refine stepV (i := 1) rfl hF (fun w hS => Y.fieldAddr fo_24_2 hF rfl) rfl fun a hF => ?_
          refine stepV (i := 2) rfl hF (fun w hS => Y.load1L 1 sz_22 hF rfl hS rfl rfl) rfl fun a hF => ?_
          refine stepV (i := 3) rfl hF (fun w hS => Y.lenSl u_22 hF rfl) rfl fun a hF => ?_
          refine stepV (i := 4) rfl hF (fun w hS => Y.sub hF rfl rfl) rfl fun a hF => ?_
          refine oneV (i := 5) rfl ?_ trivial
          refine O.callP (us := [.int .i64 e.Machine, .int .i64 0, .int .i64 (wr ((sv.Machines.length : Int) - 1))]) ca_35 hF hS (remontoirref00_Lies_ok hS.stab e.Machine 0 (wr ((sv.Machines.length : Int) - 1)) rv_5 hx_6) rfl rfl fun a w hF hS => ?_
          refine nil (then_n ⟨hS.weak ⟨rfl, rfl, trivial⟩, ?_⟩)
          refine stepV (i := 6) rfl hF (fun w hS => Y.not hF rfl) rfl fun a hF => ?_
          refine stepV (i := 7) rfl hF (fun w hS => Y.move hF rfl) rfl fun a hF => ?_
          refine stepV_on (i := 8) rfl hF rfl rfl hbv_11 (fun w hS => Y.move hF rfl) rfl fun a hF => ?_
          refine stepV_on (i := 9) rfl hF rfl rfl hbv_11 (fun w hS => Y.move hF rfl) rfl fun a hF => ?_
          refine oneV (i := 10) rfl ?_ trivial
          refine guard_on hF rfl rfl hbv_11 ?_
          refine O.callP (us := [.int .i64 used, .int .i64 e.Machine]) ca_36 hF hS (remontoirref00_In_ok hS.stab used e.Machine rv_6 hx_7) rfl rfl fun a w hF hS => ?_
          refine nil (then_n ⟨hS.weak ⟨rfl, rfl, trivial⟩, ?_⟩)
          refine stepV (i := 11) rfl hF (fun w hS => Y.pick_f hF rfl hbv_11 rfl) rfl fun a hF => ?_
          refine stepV (i := 12) rfl hF (fun w hS => Y.move hF rfl) rfl fun a hF => ?_
          refine stepV_on (i := 13) rfl hF rfl rfl hbv_12 (fun w hS => Y.move hF rfl) rfl fun a hF => ?_
          refine stepV_on (i := 14) rfl hF rfl rfl hbv_12 (fun w hS => Y.move hF rfl) rfl fun a hF => ?_
          obtain ⟨b_5, o_4, hE_4, hY_4⟩ := Y.indexS (P := Tryd.prog) (C := C_SpareTurn) (xs := rv.1) (T := 25) (x := (.tmp 98)) (y := (.tmp 99)) u_25 sz_46 hF rfl rfl (hs_2).1 hx_8
          obtain ⟨cc_4, hc_4, hcell_4⟩ := hE_4.open
          obtain rfl := C_SpareTurn.open hc_4
          refine stepV_on (i := 15) rfl hF rfl rfl hbv_12 (fun w hS => hY_4) rfl fun a hF => ?_
          refine stepV_on (i := 16) rfl hF rfl rfl hbv_12 (fun w hS => Y.fieldAddr fo_46_1 hF rfl) rfl fun a hF => ?_
          refine stepV_on (i := 17) rfl hF rfl rfl hbv_12 (fun w hS => Y.load1 sz_3 hF rfl (hcell_4 _ hS.stab 1 _ rfl)) rfl fun a hF => ?_
          refine oneV (i := 18) rfl ?_ trivial
          refine guard_on hF rfl rfl hbv_12 ?_
          refine O.callP (us := [.int .i64 e_1.Start, .int .i64 (-500), .int .i64 500]) ca_35 hF hS (remontoirref00_Lies_ok hS.stab e_1.Start (-500) 500 rv_7 hx_9) rfl rfl fun a w hF hS => ?_
          refine nil (then_n ⟨hS.weak ⟨rfl, rfl, trivial⟩, ?_⟩)
          refine stepV_on (i := 19) rfl hF rfl rfl hbv_12 (fun w hS => Y.not hF rfl) rfl fun a hF => ?_
          refine stepV (i := 20) rfl hF (fun w hS => Y.pick_f hF rfl hbv_12 rfl) rfl fun a hF => ?_
          refine stepV (i := 21) rfl hF (fun w hS => Y.move hF rfl) rfl fun a hF => ?_
          refine stepV_on (i := 22) rfl hF rfl rfl hbv_13 (fun w hS => Y.move hF rfl) rfl fun a hF => ?_
          refine stepV_on (i := 23) rfl hF rfl rfl hbv_13 (fun w hS => Y.move hF rfl) rfl fun a hF => ?_
          obtain ⟨b_6, o_5, hE_5, hY_5⟩ := Y.indexS (P := Tryd.prog) (C := C_SpareTurn) (xs := rv.1) (T := 25) (x := (.tmp 107)) (y := (.tmp 108)) u_25 sz_46 hF rfl rfl (hs_2).1 hx_10
          obtain ⟨cc_5, hc_5, hcell_5⟩ := hE_5.open
          obtain rfl := C_SpareTurn.open hc_5
          refine stepV_on (i := 24) rfl hF rfl rfl hbv_13 (fun w hS => hY_5) rfl fun a hF => ?_
          refine stepV_on (i := 25) rfl hF rfl rfl hbv_13 (fun w hS => Y.fieldAddr fo_46_2 hF rfl) rfl fun a hF => ?_
          refine stepV_on (i := 26) rfl hF rfl rfl hbv_13 (fun w hS => Y.load1 sz_3 hF rfl (hcell_5 _ hS.stab 2 _ rfl)) rfl fun a hF => ?_
          refine stepV_on (i := 27) rfl hF rfl rfl hbv_13 (fun w hS => Y.fieldAddr fo_24_0 hF rfl) rfl fun a hF => ?_
          refine stepV_on (i := 28) rfl hF rfl rfl hbv_13 (fun w hS => Y.load1L 1 sz_3 hF rfl hS rfl rfl) rfl fun a hF => ?_
          refine stepV_on (i := 29) rfl hF rfl rfl hbv_13 (fun w hS => Y.sub hF rfl rfl) rfl fun a hF => ?_
          refine oneV (i := 30) rfl ?_ trivial
          refine guard_on hF rfl rfl hbv_13 ?_
          refine O.callP (us := [.int .i64 e_2.Over, .int .i64 0, .int .i64 (wr (sv.Hours - 1))]) ca_35 hF hS (remontoirref00_Lies_ok hS.stab e_2.Over 0 (wr (sv.Hours - 1)) rv_8 hx_11) rfl rfl fun a w hF hS => ?_
          refine nil (then_n ⟨hS.weak ⟨rfl, rfl, trivial⟩, ?_⟩)
          refine stepV_on (i := 31) rfl hF rfl rfl hbv_13 (fun w hS => Y.not hF rfl) rfl fun a hF => ?_
          refine stepV (i := 32) rfl hF (fun w hS => Y.pick_f hF rfl hbv_13 rfl) rfl fun a hF => ?_
          exact toTailV ⟨hF.weak ⟨rfl, rfl, rfl, rfl, rfl, rfl, rfl, rfl, rfl, rfl, trivial⟩, hS.weak ⟨rfl, rfl, trivial⟩⟩
      rintro a w ⟨hF, hS⟩
      refine nil (then_n ?_)
      refine cond_b hF rfl (fun hbv_14 => ?_) (fun hbv_14 => ?_)
      ·replace h := cond_t h hbv_14
       refine seq ?_
       refine region ?_
       refine step hF (Y.assign hF rfl) rfl fun a hF => ?_
       refine nil (then_n ?_)
       refine ret_ (then_r (blk_r (then_r (then_r (blk_r (then_r ?_))))))
       replace h := ext_some h hxo
       obtain rfl := some_inj h
       exact leaveP Tryd.results7 hF hS (.cons (.tmp rfl) .nil) .nil rfl
      ·replace h := cond_f h hbv_14
       refine skip_ (then_n ?_)
       refine seq ?_
       refine region ?_
       refine step hF (Y.move hF rfl) rfl fun a hF => ?_
       refine step hF (Y.move hF rfl) rfl fun a hF => ?_
       obtain ⟨hg, h⟩ := ite_some h
       refine step hF (Y.shl hF rfl rfl hg) rfl fun a hF => ?_
       refine step hF (Y.or hF rfl rfl) rfl fun a hF => ?_
       refine step hF (Y.assign hF rfl) rfl fun a hF => ?_
       refine nil (then_n ?_)
       refine seq ?_
       refine region ?_
       refine step hF (Y.fieldAddr fo_24_2 hF rfl) rfl fun a hF => ?_
       refine step hF (Y.load1L 1 sz_22 hF rfl hS rfl rfl) rfl fun a hF => ?_
       refine step hF (Y.move hF rfl) rfl fun a hF => ?_
       obtain ⟨e_3, hx_12, h⟩ := bind_some h
       obtain ⟨b_7, o_6, hE_6, hY_6⟩ := Y.indexS (P := Tryd.prog) (C := C_SpareMachine) (xs := sv.Machines) (T := 22) (x := (.tmp 123)) (y := (.tmp 124)) u_22 sz_52 hF rfl rfl (hs).1 hx_12
       obtain ⟨cc_6, hc_6, hcell_6⟩ := hE_6.open
       obtain rfl := C_SpareMachine.open hc_6
       refine step hF (hY_6) rfl fun a hF => ?_
       refine step hF (Y.loadNE (o := o_6) (k := 0) sz_52 hF rfl (hcell_6 _ hS.stab) rfl rfl) rfl fun a hF => ?_
       refine O.alloc 3 zc_52 hF hS rfl fun b_8 a w hF hS => ?_
       refine O.store (us := [.int .i64 e_3.From, .int .i64 e_3.Warm, .int .i64 e_3.Life.Low, .int .i64 e_3.Life.High, .int .i64 e_3.Drift]) 3 sz_52 hF rfl rfl rfl rfl hS rfl rfl fun a w hF hS => ?_
       refine nil (then_n ?_)
       refine seq ?_
       obtain ⟨rv_9, hx_13, h⟩ := bind_some h
       obtain ⟨rv_10, hx_14, h⟩ := bind_some h
       refine drawsV 8 (.flt 0 (.flt 1 (.flt 2 (.flt 3 (.flt 4 (.alt 5 (.alt 6 (.alt 7 .done .stop) .stop) .stop)))))) mixed_ (by kernel_rfl) (fun w => St w0 D0 Dv_1 [(1, .cells b [.int .i64 sv.Hours, .int .i64 sv.Gap, .slice p sv.Machines.length c] 24), (2, .own p_3 lives.length c_3 cs 3 1), (3, .cells b_8 [.int .i64 e_3.From, .int .i64 e_3.Warm, .int .i64 e_3.Life.Low, .int .i64 e_3.Life.High, .int .i64 e_3.Drift] 52)] w) (fun a w => ∃ (p_5 : Option Addr) (c_5 : Nat) (cs_2 : List Value), Frm 276 [] [(1, .slice p_1 bits.length c_1), (2, .pointer (some ⟨b, 0, none⟩)), (4, .bool v4_0), (5, .slice p_2 rv.1.length c_2), (8, .int .i64 rv_4.2), (9, .slice p_3 lives.length c_3), (10, .int .i64 (bitsOp .or used (gshl 1 e.Machine))), (11, .int .i64 i), (13, .pointer (some ⟨b_8, 0, none⟩)), (127, .slice p_3 lives.length c_3), (134, .slice p_5 ([rv_10]).length c_5)] a ∧ St w0 D0 Dv_1 [(1, .cells b [.int .i64 sv.Hours, .int .i64 sv.Gap, .slice p sv.Machines.length c] 24), (2, .own p_3 lives.length c_3 cs 3 1), (3, .cells b_8 [.int .i64 e_3.From, .int .i64 e_3.Warm, .int .i64 e_3.Life.Low, .int .i64 e_3.Life.High, .int .i64 e_3.Drift] 52), (4, .own p_5 ([rv_10]).length c_5 cs_2 3 1)] w ∧ Reps C_int Dv_1 ([rv_10]) cs_2) (hS.weak (ms := [(1, .cells b [.int .i64 sv.Hours, .int .i64 sv.Gap, .slice p sv.Machines.length c] 24), (2, .own p_3 lives.length c_3 cs 3 1), (3, .cells b_8 [.int .i64 e_3.From, .int .i64 e_3.Warm, .int .i64 e_3.Life.Low, .int .i64 e_3.Life.High, .int .i64 e_3.Drift] 52)]) ⟨rfl, rfl, rfl, trivial⟩).drew (fun _ _ _ _ h => h) ?_ ?_
       ·replace hS := hS.drew
        have hle0 := hS.le
        refine stepV (i := 0) rfl hF (fun w hS => Y.move hF rfl) rfl fun a hF => ?_
        refine stepV (i := 1) rfl hF (fun w hS => Y.fieldAddr fo_52_2 hF rfl) rfl fun a hF => ?_
        refine stepV (i := 2) rfl hF (fun w hS => Y.loadNL 3 sz_50 hF rfl hS rfl rfl rfl) rfl fun a hF => ?_
        refine stepV (i := 3) rfl hF (fun w hS => Y.move hF rfl) rfl fun a hF => ?_
        refine stepV (i := 4) rfl hF (fun w hS => Y.move hF rfl) rfl fun a hF => ?_
        refine oneV (i := 5) rfl ?_ trivial
        refine O.callP (us := [.slice p_1 bits.length c_1, .int .i64 i]) ca_38 hF hS (remontoirref00_At_ok hS.stab bits i hs_1 rv_9 hx_13) rfl rfl fun a w hF hS => ?_
        refine nil (then_n ⟨hS.weak ⟨rfl, rfl, rfl, trivial⟩, ?_⟩)
        refine oneV (i := 6) rfl ?_ trivial
        refine O.callP (us := [.agg #[.int .i64 e_3.Life.Low, .int .i64 e_3.Life.High], .int .i64 rv_9]) ca_37 hF hS (remontoirref00_From_ok hS.stab e_3.Life rv_9 rv_10 hx_14) rfl rfl fun a w hF hS => ?_
        refine nil (then_n ⟨hS.weak ⟨rfl, rfl, rfl, trivial⟩, ?_⟩)
        refine oneV (i := 7) rfl ?_ trivial
        have hr_3 : Reps C_int Dv_1 [rv_10] [.int .i64 rv_10] := Reps.cons (C := C_int) (x := rv_10) (c := [.int .i64 rv_10]) (r := []) rfl (Reps.nil)
        refine O.buildSlice (E := 3) (C := C_int) (xs := [rv_10]) (cs := [.int .i64 rv_10]) (us := [.int .i64 rv_10]) (parts := [(0, (.tmp 133))]) 4 hF hS rfl (by kernel_rfl) hr_3 rfl rfl rfl fun p_6 c_6 a w hF hS => ?_
        refine nil (then_n ⟨hS.weak ⟨rfl, rfl, rfl, trivial⟩, ?_⟩)
        exact toTailV ⟨p_6, c_6, ([.int .i64 rv_10]), hF.weak ⟨rfl, rfl, rfl, rfl, rfl, rfl, rfl, rfl, rfl, rfl, rfl, trivial⟩, hS.weak ⟨rfl, rfl, rfl, rfl, trivial⟩, hr_3⟩
       rintro a w ⟨p_5, c_5, cs_2, hF, hS, hj⟩
       obtain ⟨hg_1, h⟩ := ite_some h
       refine O.append (C := C_int) (xs := lives) (ys := [rv_10]) 2 gr_39 hF rfl rfl hS rfl (src_own (i := 4) hS rfl) hr hj hg_1 rfl fun p_7 c_7 a w hF hS hr_4 => ?_
       refine step hF (Y.assign hF rfl) rfl fun a hF => ?_
       refine nil (then_n ?_)
       refine seq ?_
       refine region ?_
       refine step hF (Y.fieldAddr fo_24_0 hF rfl) rfl fun a hF => ?_
       refine step hF (Y.load1L 1 sz_3 hF rfl hS rfl rfl) rfl fun a hF => ?_
       refine step hF (Y.assign hF rfl) rfl fun a hF => ?_
       refine nil (then_n ?_)
       refine seq_cut (fun a w => ∃ (untilv : Int), Frm 276 [] [(1, .slice p_1 bits.length c_1), (2, .pointer (some ⟨b, 0, none⟩)), (4, .bool v4_0), (5, .slice p_2 rv.1.length c_2), (8, .int .i64 rv_4.2), (9, .slice p_7 (lives ++ [rv_10]).length c_7), (10, .int .i64 (bitsOp .or used (gshl 1 e.Machine))), (11, .int .i64 i), (13, .pointer (some ⟨b_8, 0, none⟩)), (14, .int .i64 untilv)] a ∧ St w0 D0 Dv_1 [(1, .cells b [.int .i64 sv.Hours, .int .i64 sv.Gap, .slice p sv.Machines.length c] 24), (2, .own p_7 (lives ++ [rv_10]).length c_7 (cs ++ cs_2) 3 1), (3, .cells b_8 [.int .i64 e_3.From, .int .i64 e_3.Warm, .int .i64 e_3.Life.Low, .int .i64 e_3.Life.High, .int .i64 e_3.Drift] 52), (4, .own p_5 ([rv_10]).length c_5 cs_2 3 1)] w ∧ remontoirlaw08_SpareTrue_k3 sv bits rv v4_0 lives used i e e_3 rv_10 untilv = some xo) ?_ ?_
       ·skip
        refine seq ?_
        refine region ?_
        refine step hF (Y.move hF rfl) rfl fun a hF => ?_
        refine step hF (Y.add hF rfl rfl) rfl fun a hF => ?_
        refine step hF (Y.move hF rfl) rfl fun a hF => ?_
        refine step hF (Y.lenSl u_25 hF rfl) rfl fun a hF => ?_
        refine step hF (Y.lss hF rfl rfl) rfl fun a hF => ?_
        refine nil (then_n ?_)
        refine cond_b hF rfl (fun hbv_20 => ?_) (fun hbv_20 => ?_)
        ·replace h := cond_t h hbv_20
         refine region ?_
         refine step hF (Y.move hF rfl) rfl fun a hF => ?_
         refine step hF (Y.move hF rfl) rfl fun a hF => ?_
         refine step hF (Y.add hF rfl rfl) rfl fun a hF => ?_
         obtain ⟨e_15, hx_33, h⟩ := bind_some h
         obtain ⟨b_28, o_23, hE_23, hY_23⟩ := Y.indexS (P := Tryd.prog) (C := C_SpareTurn) (xs := rv.1) (T := 25) (x := (.tmp 143)) (y := (.tmp 145)) u_25 sz_46 hF rfl rfl (hs_2).1 hx_33
         obtain ⟨cc_24, hc_24, hcell_23⟩ := hE_23.open
         obtain rfl := C_SpareTurn.open hc_24
         refine step hF (hY_23) rfl fun a hF => ?_
         refine step hF (Y.fieldAddr fo_46_2 hF rfl) rfl fun a hF => ?_
         refine step hF (Y.load1 sz_3 hF rfl (hcell_23 _ hS.stab 2 _ rfl)) rfl fun a hF => ?_
         refine step hF (Y.assign hF rfl) rfl fun a hF => ?_
         refine nil (then_n ?_)
         exact ⟨e_15.Over, hF.weak ⟨rfl, rfl, rfl, rfl, rfl, rfl, rfl, rfl, rfl, rfl, trivial⟩, hS.weak ⟨rfl, rfl, rfl, rfl, trivial⟩, h⟩
        ·replace h := cond_f h hbv_20
         refine skip_ (then_n ?_)
         exact ⟨sv.Hours, hF.weak ⟨rfl, rfl, rfl, rfl, rfl, rfl, rfl, rfl, rfl, rfl, trivial⟩, hS.weak ⟨rfl, rfl, rfl, rfl, trivial⟩, h⟩
       ·rintro a w ⟨untilv, hF, hS, h⟩
        unfold remontoirlaw08_SpareTrue_k3 at h
        refine seq ?_
        refine seq ?_
        refine draws 38 [(0, true), (1, true), (2, true), (3, true), (4, true), (5, true), (6, true), (7, true), (8, true), (9, true), (10, true), (11, true), (12, true), (13, true), (14, true), (15, true), (16, true), (17, true), (18, true), (19, true), (20, true), (21, true), (22, true), (23, true), (24, true), (25, true), (26, true), (27, true), (28, true), (29, true), (30, true), (31, true), (32, true), (33, true), (34, true), (35, true), (36, true), (37, true)] mixed_ (by kernel_rfl) (fun w => St w0 D0 Dv_1 _ w) hS.drew (fun _ _ _ _ h => h) ?_
        replace hS := hS.drew
        refine stepT (i := 0) rfl hF (fun w hS => Y.move hF rfl) rfl fun a hF => ?_
        refine stepT (i := 1) rfl hF (fun w hS => Y.move hF rfl) rfl fun a hF => ?_
        obtain ⟨e_4, hx_15, h⟩ := bind_some h
        obtain ⟨b_9, o_7, hE_7, hY_7⟩ := Y.indexS (P := Tryd.prog) (C := C_SpareTurn) (xs := rv.1) (T := 25) (x := (.tmp 149)) (y := (.tmp 150)) u_25 sz_46 hF rfl rfl (hs_2).1 hx_15
        obtain ⟨cc_7, hc_7, hcell_7⟩ := hE_7.open
        obtain rfl := C_SpareTurn.open hc_7
        refine stepT (i := 2) rfl hF (fun w hS => hY_7) rfl fun a hF => ?_
        refine stepT (i := 3) rfl hF (fun w hS => Y.fieldAddr fo_46_1 hF rfl) rfl fun a hF => ?_
        refine stepT (i := 4) rfl hF (fun w hS => Y.load1 sz_3 hF rfl (hcell_7 _ hS.stab 1 _ rfl)) rfl fun a hF => ?_
        refine stepT (i := 5) rfl hF (fun w hS => Y.fieldAddr fo_52_0 hF rfl) rfl fun a hF => ?_
        refine stepT (i := 6) rfl hF (fun w hS => Y.load1L 3 sz_3 hF rfl hS rfl rfl) rfl fun a hF => ?_
        refine stepT (i := 7) rfl hF (fun w hS => Y.lss hF rfl rfl) rfl fun a hF => ?_
        refine stepT (i := 8) rfl hF (fun w hS => Y.move hF rfl) rfl fun a hF => ?_
        obtain ⟨t_5, ht_5, h⟩ := bind_some h
        refine joinT (N := 276) (rs := []) (w0 := w0) (D0 := D0) 15 (us := [(1, .slice p_1 bits.length c_1), (2, .pointer (some ⟨b, 0, none⟩)), (4, .bool v4_0), (5, .slice p_2 rv.1.length c_2), (8, .int .i64 rv_4.2), (9, .slice p_7 (lives ++ [rv_10]).length c_7), (10, .int .i64 (bitsOp .or used (gshl 1 e.Machine))), (11, .int .i64 i), (13, .pointer (some ⟨b_8, 0, none⟩)), (14, .int .i64 untilv), (172, .bool t_5)]) (ms := [(1, .cells b [.int .i64 sv.Hours, .int .i64 sv.Gap, .slice p sv.Machines.length c] 24), (2, .own p_7 (lives ++ [rv_10]).length c_7 (cs ++ cs_2) 3 1), (3, .cells b_8 [.int .i64 e_3.From, .int .i64 e_3.Warm, .int .i64 e_3.Life.Low, .int .i64 e_3.Life.High, .int .i64 e_3.Drift] 52), (4, .own p_5 ([rv_10]).length c_5 cs_2 3 1)]) (D' := Dv_1) ?_ ?_
        ·rcases bcases (decide (e_4.Start < e_3.From)) with hbv_15 | hbv_15
         ·-- true
          replace h := cond_t ht_5 hbv_15
          refine stepT_off (i := 9) rfl hF rfl rfl hbv_15 rfl fun a hF => ?_
          refine stepT_off (i := 10) rfl hF rfl rfl hbv_15 rfl fun a hF => ?_
          refine stepT_off (i := 11) rfl hF rfl rfl hbv_15 rfl fun a hF => ?_
          refine stepT_off (i := 12) rfl hF rfl rfl hbv_15 rfl fun a hF => ?_
          refine stepT_off (i := 13) rfl hF rfl rfl hbv_15 rfl fun a hF => ?_
          refine stepT_off (i := 14) rfl hF rfl rfl hbv_15 rfl fun a hF => ?_
          refine stepT_off (i := 15) rfl hF rfl rfl hbv_15 rfl fun a hF => ?_
          refine stepT_off (i := 16) rfl hF rfl rfl hbv_15 rfl fun a hF => ?_
          refine stepT_off (i := 17) rfl hF rfl rfl hbv_15 rfl fun a hF => ?_
          refine stepT_off (i := 18) rfl hF rfl rfl hbv_15 rfl fun a hF => ?_
          refine stepT_off (i := 19) rfl hF rfl rfl hbv_15 rfl fun a hF => ?_
          refine stepT_off (i := 20) rfl hF rfl rfl hbv_15 rfl fun a hF => ?_
          refine stepT_off (i := 21) rfl hF rfl rfl hbv_15 rfl fun a hF => ?_
          refine stepT_off (i := 22) rfl hF rfl rfl hbv_15 rfl fun a hF => ?_
          refine stepT (i := 23) rfl hF (fun w hS => Y.pick_t hF rfl hbv_15 rfl) rfl fun a hF => ?_
          obtain rfl := some_inj h
          exact toTail ⟨hF.weak ⟨rfl, rfl, rfl, rfl, rfl, rfl, rfl, rfl, rfl, rfl, rfl, trivial⟩, hS.weak ⟨rfl, rfl, rfl, rfl, trivial⟩⟩
         ·-- false
          replace h := cond_f ht_5 hbv_15
          refine stepT_on (i := 9) rfl hF rfl rfl hbv_15 (fun w hS => Y.move hF rfl) rfl fun a hF => ?_
          refine stepT_on (i := 10) rfl hF rfl rfl hbv_15 (fun w hS => Y.move hF rfl) rfl fun a hF => ?_
          obtain ⟨e_5, hx_16, h⟩ := bind_some h
          obtain ⟨b_10, o_8, hE_8, hY_8⟩ := Y.indexS (P := Tryd.prog) (C := C_SpareTurn) (xs := rv.1) (T := 25) (x := (.tmp 158)) (y := (.tmp 159)) u_25 sz_46 hF rfl rfl (hs_2).1 hx_16
          obtain ⟨cc_8, hc_8, hcell_8⟩ := hE_8.open
          obtain rfl := C_SpareTurn.open hc_8
          refine stepT_on (i := 11) rfl hF rfl rfl hbv_15 (fun w hS => hY_8) rfl fun a hF => ?_
          refine stepT_on (i := 12) rfl hF rfl rfl hbv_15 (fun w hS => Y.fieldAddr fo_46_2 hF rfl) rfl fun a hF => ?_
          refine stepT_on (i := 13) rfl hF rfl rfl hbv_15 (fun w hS => Y.load1 sz_3 hF rfl (hcell_8 _ hS.stab 2 _ rfl)) rfl fun a hF => ?_
          refine stepT_on (i := 14) rfl hF rfl rfl hbv_15 (fun w hS => Y.move hF rfl) rfl fun a hF => ?_
          refine stepT_on (i := 15) rfl hF rfl rfl hbv_15 (fun w hS => Y.move hF rfl) rfl fun a hF => ?_
          obtain ⟨e_6, hx_17, h⟩ := bind_some h
          obtain ⟨b_11, o_9, hE_9, hY_9⟩ := Y.indexS (P := Tryd.prog) (C := C_SpareTurn) (xs := rv.1) (T := 25) (x := (.tmp 163)) (y := (.tmp 164)) u_25 sz_46 hF rfl rfl (hs_2).1 hx_17
          obtain ⟨cc_9, hc_9, hcell_9⟩ := hE_9.open
          obtain rfl := C_SpareTurn.open hc_9
          refine stepT_on (i := 16) rfl hF rfl rfl hbv_15 (fun w hS => hY_9) rfl fun a hF => ?_
          refine stepT_on (i := 17) rfl hF rfl rfl hbv_15 (fun w hS => Y.fieldAddr fo_46_1 hF rfl) rfl fun a hF => ?_
          refine stepT_on (i := 18) rfl hF rfl rfl hbv_15 (fun w hS => Y.load1 sz_3 hF rfl (hcell_9 _ hS.stab 1 _ rfl)) rfl fun a hF => ?_
          refine stepT_on (i := 19) rfl hF rfl rfl hbv_15 (fun w hS => Y.fieldAddr fo_52_1 hF rfl) rfl fun a hF => ?_
          refine stepT_on (i := 20) rfl hF rfl rfl hbv_15 (fun w hS => Y.load1L 3 sz_3 hF rfl hS rfl rfl) rfl fun a hF => ?_
          refine stepT_on (i := 21) rfl hF rfl rfl hbv_15 (fun w hS => Y.add hF rfl rfl) rfl fun a hF => ?_
          refine stepT_on (i := 22) rfl hF rfl rfl hbv_15 (fun w hS => Y.lss hF rfl rfl) rfl fun a hF => ?_
          refine stepT (i := 23) rfl hF (fun w hS => Y.pick_f hF rfl hbv_15 rfl) rfl fun a hF => ?_
          obtain rfl := some_inj h
          exact toTail ⟨hF.weak ⟨rfl, rfl, rfl, rfl, rfl, rfl, rfl, rfl, rfl, rfl, rfl, trivial⟩, hS.weak ⟨rfl, rfl, rfl, rfl, trivial⟩⟩
        intro a w hF hS
        refine stepT (i := 24) rfl hF (fun w hS => Y.move hF rfl) rfl fun a hF => ?_
        obtain ⟨t_6, ht_6, h⟩ := bind_some h
        refine joinT (N := 276) (rs := []) (w0 := w0) (D0 := D0) 13 (us := [(1, .slice p_1 bits.length c_1), (2, .pointer (some ⟨b, 0, none⟩)), (4, .bool v4_0), (5, .slice p_2 rv.1.length c_2), (8, .int .i64 rv_4.2), (9, .slice p_7 (lives ++ [rv_10]).length c_7), (10, .int .i64 (bitsOp .or used (gshl 1 e.Machine))), (11, .int .i64 i), (13, .pointer (some ⟨b_8, 0, none⟩)), (186, .bool t_6)]) (ms := [(1, .cells b [.int .i64 sv.Hours, .int .i64 sv.Gap, .slice p sv.Machines.length c] 24), (2, .own p_7 (lives ++ [rv_10]).length c_7 (cs ++ cs_2) 3 1), (3, .cells b_8 [.int .i64 e_3.From, .int .i64 e_3.Warm, .int .i64 e_3.Life.Low, .int .i64 e_3.Life.High, .int .i64 e_3.Drift] 52), (4, .own p_5 ([rv_10]).length c_5 cs_2 3 1)]) (D' := Dv_1) ?_ ?_
        ·rcases bcases t_5 with hbv_16 | hbv_16
         ·-- true
          replace h := cond_t ht_6 hbv_16
          refine stepT_off (i := 25) rfl hF rfl rfl hbv_16 rfl fun a hF => ?_
          refine stepT_off (i := 26) rfl hF rfl rfl hbv_16 rfl fun a hF => ?_
          refine stepT_off (i := 27) rfl hF rfl rfl hbv_16 rfl fun a hF => ?_
          refine stepT_off (i := 28) rfl hF rfl rfl hbv_16 rfl fun a hF => ?_
          refine stepT_off (i := 29) rfl hF rfl rfl hbv_16 rfl fun a hF => ?_
          refine stepT_off (i := 30) rfl hF rfl rfl hbv_16 rfl fun a hF => ?_
          refine stepT_off (i := 31) rfl hF rfl rfl hbv_16 rfl fun a hF => ?_
          refine stepT_off (i := 32) rfl hF rfl rfl hbv_16 rfl fun a hF => ?_
          refine stepT_off (i := 33) rfl hF rfl rfl hbv_16 rfl fun a hF => ?_
          refine stepT_off (i := 34) rfl hF rfl rfl hbv_16 rfl fun a hF => ?_
          refine stepT_off (i := 35) rfl hF rfl rfl hbv_16 rfl fun a hF => ?_
          refine stepT_off (i := 36) rfl hF rfl rfl hbv_16 rfl fun a hF => ?_
          refine stepT (i := 37) rfl hF (fun w hS => Y.pick_t hF rfl hbv_16 rfl) rfl fun a hF => ?_
          obtain rfl := some_inj h
          exact toTail ⟨hF.weak ⟨rfl, rfl, rfl, rfl, rfl, rfl, rfl, rfl, rfl, rfl, trivial⟩, hS.weak ⟨rfl, rfl, rfl, rfl, trivial⟩⟩
         ·-- false
          replace h := cond_f ht_6 hbv_16
          refine stepT_on (i := 25) rfl hF rfl rfl hbv_16 (fun w hS => Y.move hF rfl) rfl fun a hF => ?_
          refine stepT_on (i := 26) rfl hF rfl rfl hbv_16 (fun w hS => Y.move hF rfl) rfl fun a hF => ?_
          obtain ⟨e_7, hx_18, h⟩ := bind_some h
          obtain ⟨b_12, o_10, hE_10, hY_10⟩ := Y.indexS (P := Tryd.prog) (C := C_SpareTurn) (xs := rv.1) (T := 25) (x := (.tmp 174)) (y := (.tmp 175)) u_25 sz_46 hF rfl rfl (hs_2).1 hx_18
          obtain ⟨cc_10, hc_10, hcell_10⟩ := hE_10.open
          obtain rfl := C_SpareTurn.open hc_10
          refine stepT_on (i := 27) rfl hF rfl rfl hbv_16 (fun w hS => hY_10) rfl fun a hF => ?_
          refine stepT_on (i := 28) rfl hF rfl rfl hbv_16 (fun w hS => Y.fieldAddr fo_46_1 hF rfl) rfl fun a hF => ?_
          refine stepT_on (i := 29) rfl hF rfl rfl hbv_16 (fun w hS => Y.load1 sz_3 hF rfl (hcell_10 _ hS.stab 1 _ rfl)) rfl fun a hF => ?_
          refine stepT_on (i := 30) rfl hF rfl rfl hbv_16 (fun w hS => Y.move hF rfl) rfl fun a hF => ?_
          refine stepT_on (i := 31) rfl hF rfl rfl hbv_16 (fun w hS => Y.move hF rfl) rfl fun a hF => ?_
          obtain ⟨e_8, hx_19, h⟩ := bind_some h
          obtain ⟨b_13, hp⟩ := hS.ownPtr (i := 2) rfl (idx_rng hx_19)
          obtain ⟨cc_11, hc_11, hsub⟩ := ownElI (C := C_int) hr_4 hx_19
          obtain rfl := hc_11
          refine stepT_on (i := 32) rfl hF rfl rfl hbv_16 (fun w hS => Y.indexOwn hp u_39 sz_3 (idx_rng hx_19) hF rfl rfl) rfl fun a hF => ?_
          refine stepT_on (i := 33) rfl hF rfl rfl hbv_16 (fun w hS => Y.load1 sz_3 hF rfl (ownElCell (C := C_int) (i := 2) hS rfl hp hsub 0 _ rfl)) rfl fun a hF => ?_
          refine stepT_on (i := 34) rfl hF rfl rfl hbv_16 (fun w hS => Y.add hF rfl rfl) rfl fun a hF => ?_
          refine stepT_on (i := 35) rfl hF rfl rfl hbv_16 (fun w hS => Y.move hF rfl) rfl fun a hF => ?_
          refine stepT_on (i := 36) rfl hF rfl rfl hbv_16 (fun w hS => Y.lss hF rfl rfl) rfl fun a hF => ?_
          refine stepT (i := 37) rfl hF (fun w hS => Y.pick_f hF rfl hbv_16 rfl) rfl fun a hF => ?_
          obtain rfl := some_inj h
          exact toTail ⟨hF.weak ⟨rfl, rfl, rfl, rfl, rfl, rfl, rfl, rfl, rfl, rfl, trivial⟩, hS.weak ⟨rfl, rfl, rfl, rfl, trivial⟩⟩
        intro a w hF hS
        refine toTail ?_
        refine nil (then_n ?_)
        refine cond_b hF rfl (fun hbv_17 => ?_) (fun hbv_17 => ?_)
        ·replace h := cond_t h hbv_17
         refine seq ?_
         refine region ?_
         refine step hF (Y.assign hF rfl) rfl fun a hF => ?_
         refine nil (then_n ?_)
         refine ret_ (then_r (blk_r (then_r (then_r (blk_r (then_r ?_))))))
         replace h := ext_some h hxo
         obtain rfl := some_inj h
         exact leaveP Tryd.results7 hF hS (.cons (.tmp rfl) .nil) .nil rfl
        ·replace h := cond_f h hbv_17
         refine skip_ (then_n ?_)
         refine seq ?_
         refine seq ?_
         refine region ?_
         refine step hF (Y.move hF rfl) rfl fun a hF => ?_
         refine step hF (Y.eql hF rfl rfl) rfl fun a hF => ?_
         refine nil (then_n ?_)
         refine cond_b hF rfl (fun hbv_18 => ?_) (fun hbv_18 => ?_)
         ·replace h := cond_t h hbv_18
          refine exit_ (then_x (blk_hit (then_n ?_)))
          exact ⟨v4_0, (lives ++ [rv_10]), (bitsOp .or used (gshl 1 e.Machine)), Dv_1, p_7, c_7, (cs ++ cs_2), Stab.le.refl _, hF.weak ⟨rfl, rfl, rfl, rfl, rfl, rfl, rfl, rfl, trivial⟩, hS.weak ⟨rfl, rfl, trivial⟩, hr_4, h⟩
         ·replace h := cond_f h hbv_18
          refine skip_ (then_n ?_)
          refine seq ?_
          obtain ⟨e_9, hx_20, h⟩ := bind_some h
          obtain ⟨e_10, hx_21, h⟩ := bind_some h
          refine drawsV 11 (.flt 0 (.flt 1 (.flt 2 (.flt 3 (.flt 4 (.flt 5 (.flt 6 (.flt 7 (.flt 8 (.flt 9 (.alt 10 .done .stop))))))))))) mixed_ (by kernel_rfl) (fun w => St w0 D0 Dv_1 [(1, .cells b [.int .i64 sv.Hours, .int .i64 sv.Gap, .slice p sv.Machines.length c] 24), (2, .own p_7 (lives ++ [rv_10]).length c_7 (cs ++ cs_2) 3 1), (3, .cells b_8 [.int .i64 e_3.From, .int .i64 e_3.Warm, .int .i64 e_3.Life.Low, .int .i64 e_3.Life.High, .int .i64 e_3.Drift] 52), (4, .own p_5 ([rv_10]).length c_5 cs_2 3 1)] w) (fun a w => ∃ (b_16 : Nat), Frm 276 [] [(1, .slice p_1 bits.length c_1), (2, .pointer (some ⟨b, 0, none⟩)), (4, .bool v4_0), (5, .slice p_2 rv.1.length c_2), (8, .int .i64 rv_4.2), (9, .slice p_7 (lives ++ [rv_10]).length c_7), (10, .int .i64 (bitsOp .or used (gshl 1 e.Machine))), (11, .int .i64 i), (13, .pointer (some ⟨b_8, 0, none⟩)), (15, .pointer (some ⟨b_16, 0, none⟩)), (198, .agg #[.int .i64 e_10.From, .int .i64 e_10.Warm, .int .i64 e_10.Life.Low, .int .i64 e_10.Life.High, .int .i64 e_10.Drift])] a ∧ St w0 D0 Dv_1 [(1, .cells b [.int .i64 sv.Hours, .int .i64 sv.Gap, .slice p sv.Machines.length c] 24), (2, .own p_7 (lives ++ [rv_10]).length c_7 (cs ++ cs_2) 3 1), (3, .cells b_8 [.int .i64 e_3.From, .int .i64 e_3.Warm, .int .i64 e_3.Life.Low, .int .i64 e_3.Life.High, .int .i64 e_3.Drift] 52), (4, .own p_5 ([rv_10]).length c_5 cs_2 3 1), (5, .cells b_16 [.int .i64 0, .int .i64 0, .int .i64 0, .int .i64 0, .int .i64 0] 52)] w) (hS.weak (ms := [(1, .cells b [.int .i64 sv.Hours, .int .i64 sv.Gap, .slice p sv.Machines.length c] 24), (2, .own p_7 (lives ++ [rv_10]).length c_7 (cs ++ cs_2) 3 1), (3, .cells b_8 [.int .i64 e_3.From, .int .i64 e_3.Warm, .int .i64 e_3.Life.Low, .int .i64 e_3.Life.High, .int .i64 e_3.Drift] 52), (4, .own p_5 ([rv_10]).length c_5 cs_2 3 1)]) ⟨rfl, rfl, rfl, rfl, trivial⟩).drew (fun _ _ _ _ h => h) ?_ ?_
          ·replace hS := hS.drew
           have hle0 := hS.le
           refine stepV (i := 0) rfl hF (fun w hS => Y.fieldAddr fo_24_2 hF rfl) rfl fun a hF => ?_
           refine stepV (i := 1) rfl hF (fun w hS => Y.load1L 1 sz_22 hF rfl hS rfl rfl) rfl fun a hF => ?_
           refine stepV (i := 2) rfl hF (fun w hS => Y.move hF rfl) rfl fun a hF => ?_
           refine stepV (i := 3) rfl hF (fun w hS => Y.move hF rfl) rfl fun a hF => ?_
           refine stepV (i := 4) rfl hF (fun w hS => Y.sub hF rfl rfl) rfl fun a hF => ?_
           obtain ⟨b_17, o_13, hE_13, hY_13⟩ := Y.indexS (P := Tryd.prog) (C := C_SpareTurn) (xs := rv.1) (T := 25) (x := (.tmp 191)) (y := (.tmp 193)) u_25 sz_46 hF rfl rfl (hs_2).1 hx_20
           obtain ⟨cc_14, hc_14, hcell_13⟩ := hE_13.open
           obtain rfl := C_SpareTurn.open hc_14
           refine stepV (i := 5) rfl hF (fun w hS => hY_13) rfl fun a hF => ?_
           refine stepV (i := 6) rfl hF (fun w hS => Y.fieldAddr fo_46_0 hF rfl) rfl fun a hF => ?_
           refine stepV (i := 7) rfl hF (fun w hS => Y.load1 sz_3 hF rfl (hcell_13 _ hS.stab 0 _ rfl)) rfl fun a hF => ?_
           obtain ⟨b_18, o_14, hE_14, hY_14⟩ := Y.indexS (P := Tryd.prog) (C := C_SpareMachine) (xs := sv.Machines) (T := 22) (x := (.tmp 190)) (y := (.tmp 196)) u_22 sz_52 hF rfl rfl (hs).1 hx_21
           obtain ⟨cc_15, hc_15, hcell_14⟩ := hE_14.open
           obtain rfl := C_SpareMachine.open hc_15
           refine stepV (i := 8) rfl hF (fun w hS => hY_14) rfl fun a hF => ?_
           refine stepV (i := 9) rfl hF (fun w hS => Y.loadNE (o := o_14) (k := 0) sz_52 hF rfl (hcell_14 _ hS.stab) rfl rfl) rfl fun a hF => ?_
           refine oneV (i := 10) rfl ?_ trivial
           refine O.alloc 5 zc_52 hF hS rfl fun b_19 a w hF hS => ?_
           refine nil (then_n ⟨hS.weak ⟨rfl, rfl, rfl, rfl, trivial⟩, ?_⟩)
           exact toTailV ⟨b_19, hF.weak ⟨rfl, rfl, rfl, rfl, rfl, rfl, rfl, rfl, rfl, rfl, rfl, trivial⟩, hS.weak ⟨rfl, rfl, rfl, rfl, rfl, trivial⟩⟩
          rintro a w ⟨b_16, hF, hS⟩
          refine O.store (us := [.int .i64 e_10.From, .int .i64 e_10.Warm, .int .i64 e_10.Life.Low, .int .i64 e_10.Life.High, .int .i64 e_10.Drift]) 5 sz_52 hF rfl rfl rfl rfl hS rfl rfl fun a w hF hS => ?_
          refine nil (then_n ?_)
          refine seq ?_
          obtain ⟨rv_11, hx_22, h⟩ := bind_some h
          obtain ⟨rv_12, hx_23, h⟩ := bind_some h
          obtain ⟨rv_13, hx_24, h⟩ := bind_some h
          obtain ⟨e_11, hx_25, h⟩ := bind_some h
          obtain ⟨e_12, hx_26, h⟩ := bind_some h
          refine drawsV 26 (.flt 0 (.flt 1 (.flt 2 (.flt 3 (.flt 4 (.flt 6 (.flt 7 (.flt 8 (.flt 11 (.flt 12 (.flt 13 (.flt 14 (.flt 15 (.flt 16 (.flt 17 (.flt 18 (.flt 19 (.flt 20 (.flt 21 (.flt 22 (.flt 23 (.flt 24 (.flt 25 (.alt 5 (.alt 9 (.alt 10 .done .stop) .stop) .stop)))))))))))))))))))))))) mixed_ (by kernel_rfl) (fun w => St w0 D0 Dv_1 [(1, .cells b [.int .i64 sv.Hours, .int .i64 sv.Gap, .slice p sv.Machines.length c] 24), (2, .own p_7 (lives ++ [rv_10]).length c_7 (cs ++ cs_2) 3 1), (3, .cells b_8 [.int .i64 e_3.From, .int .i64 e_3.Warm, .int .i64 e_3.Life.Low, .int .i64 e_3.Life.High, .int .i64 e_3.Drift] 52), (4, .own p_5 ([rv_10]).length c_5 cs_2 3 1), (5, .cells b_16 [.int .i64 e_10.From, .int .i64 e_10.Warm, .int .i64 e_10.Life.Low, .int .i64 e_10.Life.High, .int .i64 e_10.Drift] 52)] w) (fun a w => Frm 276 [] [(1, .slice p_1 bits.length c_1), (2, .pointer (some ⟨b, 0, none⟩)), (4, .bool v4_0), (5, .slice p_2 rv.1.length c_2), (8, .int .i64 rv_4.2), (9, .slice p_7 (lives ++ [rv_10]).length c_7), (10, .int .i64 (bitsOp .or used (gshl 1 e.Machine))), (11, .int .i64 i), (13, .pointer (some ⟨b_8, 0, none⟩)), (209, .int .i64 rv_13), (224, .int .i64 (wr ((wr (e_11.Over - e_12.Start)) - e_10.Warm)))] a ∧ St w0 D0 Dv_1 [(1, .cells b [.int .i64 sv.Hours, .int .i64 sv.Gap, .slice p sv.Machines.length c] 24), (2, .own p_7 (lives ++ [rv_10]).length c_7 (cs ++ cs_2) 3 1), (3, .cells b_8 [.int .i64 e_3.From, .int .i64 e_3.Warm, .int .i64 e_3.Life.Low, .int .i64 e_3.Life.High, .int .i64 e_3.Drift] 52), (4, .own p_5 ([rv_10]).length c_5 cs_2 3 1), (5, .cells b_16 [.int .i64 e_10.From, .int .i64 e_10.Warm, .int .i64 e_10.Life.Low, .int .i64 e_10.Life.High, .int .i64 e_10.Drift] 52)] w) (hS.weak (ms := [(1, .cells b [.int .i64 sv.Hours, .int .i64 sv.Gap, .slice p sv.Machines.length c] 24), (2, .own p_7 (lives ++ [rv_10]).length c_7 (cs ++ cs_2) 3 1), (3, .cells b_8 [.int .i64 e_3.From, .int .i64 e_3.Warm, .int .i64 e_3.Life.Low, .int .i64 e_3.Life.High, .int .i64 e_3.Drift] 52), (4, .own p_5 ([rv_10]).length c_5 cs_2 3 1), (5, .cells b_16 [.int .i64 e_10.From, .int .i64 e_10.Warm, .int .i64 e_10.Life.Low, .int .i64 e_10.Life.High, .int .i64 e_10.Drift] 52)]) ⟨rfl, rfl, rfl, rfl, rfl, trivial⟩).drew (fun _ _ _ _ h => h) ?_ ?_
          ·replace hS := hS.drew
           have hle0 := hS.le
           refine stepV (i := 0) rfl hF (fun w hS => Y.fieldAddr fo_52_3 hF rfl) rfl fun a hF => ?_
           refine stepV (i := 1) rfl hF (fun w hS => Y.load1L 5 sz_3 hF rfl hS rfl rfl) rfl fun a hF => ?_
           refine stepV (i := 2) rfl hF (fun w hS => Y.neg hF rfl) rfl fun a hF => ?_
           refine stepV (i := 3) rfl hF (fun w hS => Y.fieldAddr fo_52_3 hF rfl) rfl fun a hF => ?_
           refine stepV (i := 4) rfl hF (fun w hS => Y.load1L 5 sz_3 hF rfl hS rfl rfl) rfl fun a hF => ?_
           refine stepV (i := 6) rfl hF (fun w hS => Y.move hF rfl) rfl fun a hF => ?_
           refine stepV (i := 7) rfl hF (fun w hS => Y.move hF rfl) rfl fun a hF => ?_
           refine stepV (i := 8) rfl hF (fun w hS => Y.add hF rfl rfl) rfl fun a hF => ?_
           refine stepV (i := 11) rfl hF (fun w hS => Y.move hF rfl) rfl fun a hF => ?_
           refine stepV (i := 12) rfl hF (fun w hS => Y.move hF rfl) rfl fun a hF => ?_
           obtain ⟨b_22, o_17, hE_17, hY_17⟩ := Y.indexS (P := Tryd.prog) (C := C_SpareTurn) (xs := rv.1) (T := 25) (x := (.tmp 210)) (y := (.tmp 211)) u_25 sz_46 hF rfl rfl (hs_2).1 hx_25
           obtain ⟨cc_18, hc_18, hcell_17⟩ := hE_17.open
           obtain rfl := C_SpareTurn.open hc_18
           refine stepV (i := 13) rfl hF (fun w hS => hY_17) rfl fun a hF => ?_
           refine stepV (i := 14) rfl hF (fun w hS => Y.fieldAddr fo_46_2 hF rfl) rfl fun a hF => ?_
           refine stepV (i := 15) rfl hF (fun w hS => Y.load1 sz_3 hF rfl (hcell_17 _ hS.stab 2 _ rfl)) rfl fun a hF => ?_
           refine stepV (i := 16) rfl hF (fun w hS => Y.move hF rfl) rfl fun a hF => ?_
           refine stepV (i := 17) rfl hF (fun w hS => Y.move hF rfl) rfl fun a hF => ?_
           refine stepV (i := 18) rfl hF (fun w hS => Y.sub hF rfl rfl) rfl fun a hF => ?_
           obtain ⟨b_23, o_18, hE_18, hY_18⟩ := Y.indexS (P := Tryd.prog) (C := C_SpareTurn) (xs := rv.1) (T := 25) (x := (.tmp 215)) (y := (.tmp 217)) u_25 sz_46 hF rfl rfl (hs_2).1 hx_26
           obtain ⟨cc_19, hc_19, hcell_18⟩ := hE_18.open
           obtain rfl := C_SpareTurn.open hc_19
           refine stepV (i := 19) rfl hF (fun w hS => hY_18) rfl fun a hF => ?_
           refine stepV (i := 20) rfl hF (fun w hS => Y.fieldAddr fo_46_1 hF rfl) rfl fun a hF => ?_
           refine stepV (i := 21) rfl hF (fun w hS => Y.load1 sz_3 hF rfl (hcell_18 _ hS.stab 1 _ rfl)) rfl fun a hF => ?_
           refine stepV (i := 22) rfl hF (fun w hS => Y.sub hF rfl rfl) rfl fun a hF => ?_
           refine stepV (i := 23) rfl hF (fun w hS => Y.fieldAddr fo_52_1 hF rfl) rfl fun a hF => ?_
           refine stepV (i := 24) rfl hF (fun w hS => Y.load1L 5 sz_3 hF rfl hS rfl rfl) rfl fun a hF => ?_
           refine stepV (i := 25) rfl hF (fun w hS => Y.sub hF rfl rfl) rfl fun a hF => ?_
           refine oneV (i := 5) rfl ?_ trivial
           refine O.callP (us := [.int .i64 (wr (0 - e_10.Drift)), .int .i64 e_10.Drift]) ca_39 hF hS (remontoirref00_To_ok hS.stab (wr (0 - e_10.Drift)) e_10.Drift rv_11 hx_22) rfl rfl fun a w hF hS => ?_
           refine nil (then_n ⟨hS.weak ⟨rfl, rfl, rfl, rfl, rfl, trivial⟩, ?_⟩)
           refine oneV (i := 9) rfl ?_ trivial
           refine O.callP (us := [.slice p_1 bits.length c_1, .int .i64 (wr (i + 3))]) ca_38 hF hS (remontoirref00_At_ok hS.stab bits (wr (i + 3)) hs_1 rv_12 hx_23) rfl rfl fun a w hF hS => ?_
           refine nil (then_n ⟨hS.weak ⟨rfl, rfl, rfl, rfl, rfl, trivial⟩, ?_⟩)
           refine oneV (i := 10) rfl ?_ trivial
           refine O.callP (us := [.agg #[.int .i64 rv_11.Low, .int .i64 rv_11.High], .int .i64 rv_12]) ca_37 hF hS (remontoirref00_From_ok hS.stab rv_11 rv_12 rv_13 hx_24) rfl rfl fun a w hF hS => ?_
           refine nil (then_n ⟨hS.weak ⟨rfl, rfl, rfl, rfl, rfl, trivial⟩, ?_⟩)
           exact toTailV ⟨hF.weak ⟨rfl, rfl, rfl, rfl, rfl, rfl, rfl, rfl, rfl, rfl, rfl, trivial⟩, hS.weak ⟨rfl, rfl, rfl, rfl, rfl, trivial⟩⟩
          rintro a w ⟨hF, hS⟩
          refine step hF (Y.mul hF rfl rfl) rfl fun a hF => ?_
          refine step hF (Y.assign hF rfl) rfl fun a hF => ?_
          refine nil (then_n ?_)
          refine seq ?_
          obtain ⟨rv_14, hx_27, h⟩ := bind_some h
          obtain ⟨rv_15, hx_28, h⟩ := bind_some h
          obtain ⟨rv_16, hx_29, h⟩ := bind_some h
          obtain ⟨e_13, hx_30, h⟩ := bind_some h
          obtain ⟨e_14, hx_31, h⟩ := bind_some h
          refine drawsV 25 (.flt 0 (.flt 1 (.flt 2 (.flt 3 (.flt 4 (.flt 6 (.flt 7 (.flt 8 (.flt 11 (.flt 12 (.flt 13 (.flt 14 (.flt 15 (.flt 16 (.flt 17 (.flt 18 (.flt 19 (.flt 20 (.flt 21 (.flt 22 (.flt 23 (.flt 24 (.alt 5 (.alt 9 (.alt 10 .done .stop) .stop) .stop))))))))))))))))))))))) mixed_ (by kernel_rfl) (fun w => St w0 D0 Dv_1 [(1, .cells b [.int .i64 sv.Hours, .int .i64 sv.Gap, .slice p sv.Machines.length c] 24), (2, .own p_7 (lives ++ [rv_10]).length c_7 (cs ++ cs_2) 3 1), (3, .cells b_8 [.int .i64 e_3.From, .int .i64 e_3.Warm, .int .i64 e_3.Life.Low, .int .i64 e_3.Life.High, .int .i64 e_3.Drift] 52), (4, .own p_5 ([rv_10]).length c_5 cs_2 3 1), (5, .cells b_16 [.int .i64 e_10.From, .int .i64 e_10.Warm, .int .i64 e_10.Life.Low, .int .i64 e_10.Life.High, .int .i64 e_10.Drift] 52)] w) (fun a w => Frm 276 [] [(1, .slice p_1 bits.length c_1), (2, .pointer (some ⟨b, 0, none⟩)), (4, .bool v4_0), (5, .slice p_2 rv.1.length c_2), (8, .int .i64 rv_4.2), (9, .slice p_7 (lives ++ [rv_10]).length c_7), (10, .int .i64 (bitsOp .or used (gshl 1 e.Machine))), (11, .int .i64 i), (16, .int .i64 (wr (rv_13 * (wr ((wr (e_11.Over - e_12.Start)) - e_10.Warm))))), (236, .int .i64 rv_16), (250, .int .i64 (wr ((wr (e_13.Over - e_14.Start)) - e_3.Warm)))] a ∧ St w0 D0 Dv_1 [(1, .cells b [.int .i64 sv.Hours, .int .i64 sv.Gap, .slice p sv.Machines.length c] 24), (2, .own p_7 (lives ++ [rv_10]).length c_7 (cs ++ cs_2) 3 1), (3, .cells b_8 [.int .i64 e_3.From, .int .i64 e_3.Warm, .int .i64 e_3.Life.Low, .int .i64 e_3.Life.High, .int .i64 e_3.Drift] 52), (4, .own p_5 ([rv_10]).length c_5 cs_2 3 1), (5, .cells b_16 [.int .i64 e_10.From, .int .i64 e_10.Warm, .int .i64 e_10.Life.Low, .int .i64 e_10.Life.High, .int .i64 e_10.Drift] 52)] w) (hS.weak (ms := [(1, .cells b [.int .i64 sv.Hours, .int .i64 sv.Gap, .slice p sv.Machines.length c] 24), (2, .own p_7 (lives ++ [rv_10]).length c_7 (cs ++ cs_2) 3 1), (3, .cells b_8 [.int .i64 e_3.From, .int .i64 e_3.Warm, .int .i64 e_3.Life.Low, .int .i64 e_3.Life.High, .int .i64 e_3.Drift] 52), (4, .own p_5 ([rv_10]).length c_5 cs_2 3 1), (5, .cells b_16 [.int .i64 e_10.From, .int .i64 e_10.Warm, .int .i64 e_10.Life.Low, .int .i64 e_10.Life.High, .int .i64 e_10.Drift] 52)]) ⟨rfl, rfl, rfl, rfl, rfl, trivial⟩).drew (fun _ _ _ _ h => h) ?_ ?_
          ·replace hS := hS.drew
           have hle0 := hS.le
           refine stepV (i := 0) rfl hF (fun w hS => Y.fieldAddr fo_52_3 hF rfl) rfl fun a hF => ?_
           refine stepV (i := 1) rfl hF (fun w hS => Y.load1L 3 sz_3 hF rfl hS rfl rfl) rfl fun a hF => ?_
           refine stepV (i := 2) rfl hF (fun w hS => Y.neg hF rfl) rfl fun a hF => ?_
           refine stepV (i := 3) rfl hF (fun w hS => Y.fieldAddr fo_52_3 hF rfl) rfl fun a hF => ?_
           refine stepV (i := 4) rfl hF (fun w hS => Y.load1L 3 sz_3 hF rfl hS rfl rfl) rfl fun a hF => ?_
           refine stepV (i := 6) rfl hF (fun w hS => Y.move hF rfl) rfl fun a hF => ?_
           refine stepV (i := 7) rfl hF (fun w hS => Y.move hF rfl) rfl fun a hF => ?_
           refine stepV (i := 8) rfl hF (fun w hS => Y.add hF rfl rfl) rfl fun a hF => ?_
           refine stepV (i := 11) rfl hF (fun w hS => Y.move hF rfl) rfl fun a hF => ?_
           refine stepV (i := 12) rfl hF (fun w hS => Y.move hF rfl) rfl fun a hF => ?_
           obtain ⟨b_26, o_21, hE_21, hY_21⟩ := Y.indexS (P := Tryd.prog) (C := C_SpareTurn) (xs := rv.1) (T := 25) (x := (.tmp 237)) (y := (.tmp 238)) u_25 sz_46 hF rfl rfl (hs_2).1 hx_30
           obtain ⟨cc_22, hc_22, hcell_21⟩ := hE_21.open
           obtain rfl := C_SpareTurn.open hc_22
           refine stepV (i := 13) rfl hF (fun w hS => hY_21) rfl fun a hF => ?_
           refine stepV (i := 14) rfl hF (fun w hS => Y.fieldAddr fo_46_2 hF rfl) rfl fun a hF => ?_
           refine stepV (i := 15) rfl hF (fun w hS => Y.load1 sz_3 hF rfl (hcell_21 _ hS.stab 2 _ rfl)) rfl fun a hF => ?_
           refine stepV (i := 16) rfl hF (fun w hS => Y.move hF rfl) rfl fun a hF => ?_
           refine stepV (i := 17) rfl hF (fun w hS => Y.move hF rfl) rfl fun a hF => ?_
           obtain ⟨b_27, o_22, hE_22, hY_22⟩ := Y.indexS (P := Tryd.prog) (C := C_SpareTurn) (xs := rv.1) (T := 25) (x := (.tmp 242)) (y := (.tmp 243)) u_25 sz_46 hF rfl rfl (hs_2).1 hx_31
           obtain ⟨cc_23, hc_23, hcell_22⟩ := hE_22.open
           obtain rfl := C_SpareTurn.open hc_23
           refine stepV (i := 18) rfl hF (fun w hS => hY_22) rfl fun a hF => ?_
           refine stepV (i := 19) rfl hF (fun w hS => Y.fieldAddr fo_46_1 hF rfl) rfl fun a hF => ?_
           refine stepV (i := 20) rfl hF (fun w hS => Y.load1 sz_3 hF rfl (hcell_22 _ hS.stab 1 _ rfl)) rfl fun a hF => ?_
           refine stepV (i := 21) rfl hF (fun w hS => Y.sub hF rfl rfl) rfl fun a hF => ?_
           refine stepV (i := 22) rfl hF (fun w hS => Y.fieldAddr fo_52_1 hF rfl) rfl fun a hF => ?_
           refine stepV (i := 23) rfl hF (fun w hS => Y.load1L 3 sz_3 hF rfl hS rfl rfl) rfl fun a hF => ?_
           refine stepV (i := 24) rfl hF (fun w hS => Y.sub hF rfl rfl) rfl fun a hF => ?_
           refine oneV (i := 5) rfl ?_ trivial
           refine O.callP (us := [.int .i64 (wr (0 - e_3.Drift)), .int .i64 e_3.Drift]) ca_39 hF hS (remontoirref00_To_ok hS.stab (wr (0 - e_3.Drift)) e_3.Drift rv_14 hx_27) rfl rfl fun a w hF hS => ?_
           refine nil (then_n ⟨hS.weak ⟨rfl, rfl, rfl, rfl, rfl, trivial⟩, ?_⟩)
           refine oneV (i := 9) rfl ?_ trivial
           refine O.callP (us := [.slice p_1 bits.length c_1, .int .i64 (wr (i + 5))]) ca_38 hF hS (remontoirref00_At_ok hS.stab bits (wr (i + 5)) hs_1 rv_15 hx_28) rfl rfl fun a w hF hS => ?_
           refine nil (then_n ⟨hS.weak ⟨rfl, rfl, rfl, rfl, rfl, trivial⟩, ?_⟩)
           refine oneV (i := 10) rfl ?_ trivial
           refine O.callP (us := [.agg #[.int .i64 rv_14.Low, .int .i64 rv_14.High], .int .i64 rv_15]) ca_37 hF hS (remontoirref00_From_ok hS.stab rv_14 rv_15 rv_16 hx_29) rfl rfl fun a w hF hS => ?_
           refine nil (then_n ⟨hS.weak ⟨rfl, rfl, rfl, rfl, rfl, trivial⟩, ?_⟩)
           exact toTailV ⟨hF.weak ⟨rfl, rfl, rfl, rfl, rfl, rfl, rfl, rfl, rfl, rfl, rfl, trivial⟩, hS.weak ⟨rfl, rfl, rfl, rfl, rfl, trivial⟩⟩
          rintro a w ⟨hF, hS⟩
          refine step hF (Y.mul hF rfl rfl) rfl fun a hF => ?_
          refine step hF (Y.assign hF rfl) rfl fun a hF => ?_
          refine nil (then_n ?_)
          refine seq ?_
          obtain ⟨rv_17, hx_32, h⟩ := bind_some h
          refine drawsV 6 (.flt 0 (.flt 1 (.flt 2 (.flt 4 (.flt 5 (.alt 3 .done .stop)))))) mixed_ (by kernel_rfl) (fun w => St w0 D0 Dv_1 [(1, .cells b [.int .i64 sv.Hours, .int .i64 sv.Gap, .slice p sv.Machines.length c] 24), (2, .own p_7 (lives ++ [rv_10]).length c_7 (cs ++ cs_2) 3 1), (3, .cells b_8 [.int .i64 e_3.From, .int .i64 e_3.Warm, .int .i64 e_3.Life.Low, .int .i64 e_3.Life.High, .int .i64 e_3.Drift] 52), (4, .own p_5 ([rv_10]).length c_5 cs_2 3 1), (5, .cells b_16 [.int .i64 e_10.From, .int .i64 e_10.Warm, .int .i64 e_10.Life.Low, .int .i64 e_10.Life.High, .int .i64 e_10.Drift] 52)] w) (fun a w => Frm 276 [] [(1, .slice p_1 bits.length c_1), (2, .pointer (some ⟨b, 0, none⟩)), (4, .bool v4_0), (5, .slice p_2 rv.1.length c_2), (8, .int .i64 rv_4.2), (9, .slice p_7 (lives ++ [rv_10]).length c_7), (10, .int .i64 (bitsOp .or used (gshl 1 e.Machine))), (11, .int .i64 i), (255, .int .i64 rv_17), (257, .int .i64 sv.Gap)] a ∧ St w0 D0 Dv_1 [(1, .cells b [.int .i64 sv.Hours, .int .i64 sv.Gap, .slice p sv.Machines.length c] 24), (2, .own p_7 (lives ++ [rv_10]).length c_7 (cs ++ cs_2) 3 1), (3, .cells b_8 [.int .i64 e_3.From, .int .i64 e_3.Warm, .int .i64 e_3.Life.Low, .int .i64 e_3.Life.High, .int .i64 e_3.Drift] 52), (4, .own p_5 ([rv_10]).length c_5 cs_2 3 1), (5, .cells b_16 [.int .i64 e_10.From, .int .i64 e_10.Warm, .int .i64 e_10.Life.Low, .int .i64 e_10.Life.High, .int .i64 e_10.Drift] 52)] w) (hS.weak (ms := [(1, .cells b [.int .i64 sv.Hours, .int .i64 sv.Gap, .slice p sv.Machines.length c] 24), (2, .own p_7 (lives ++ [rv_10]).length c_7 (cs ++ cs_2) 3 1), (3, .cells b_8 [.int .i64 e_3.From, .int .i64 e_3.Warm, .int .i64 e_3.Life.Low, .int .i64 e_3.Life.High, .int .i64 e_3.Drift] 52), (4, .own p_5 ([rv_10]).length c_5 cs_2 3 1), (5, .cells b_16 [.int .i64 e_10.From, .int .i64 e_10.Warm, .int .i64 e_10.Life.Low, .int .i64 e_10.Life.High, .int .i64 e_10.Drift] 52)]) ⟨rfl, rfl, rfl, rfl, rfl, trivial⟩).drew (fun _ _ _ _ h => h) ?_ ?_
          ·replace hS := hS.drew
           have hle0 := hS.le
           refine stepV (i := 0) rfl hF (fun w hS => Y.move hF rfl) rfl fun a hF => ?_
           refine stepV (i := 1) rfl hF (fun w hS => Y.move hF rfl) rfl fun a hF => ?_
           refine stepV (i := 2) rfl hF (fun w hS => Y.sub hF rfl rfl) rfl fun a hF => ?_
           refine stepV (i := 4) rfl hF (fun w hS => Y.fieldAddr fo_24_1 hF rfl) rfl fun a hF => ?_
           refine stepV (i := 5) rfl hF (fun w hS => Y.load1L 1 sz_3 hF rfl hS rfl rfl) rfl fun a hF => ?_
           refine oneV (i := 3) rfl ?_ trivial
           refine O.callP (us := [.int .i64 (wr ((wr (rv_13 * (wr ((wr (e_11.Over - e_12.Start)) - e_10.Warm)))) - (wr (rv_16 * (wr ((wr (e_13.Over - e_14.Start)) - e_3.Warm))))))]) ca_40 hF hS (remontoirref00_Size_ok hS.stab (wr ((wr (rv_13 * (wr ((wr (e_11.Over - e_12.Start)) - e_10.Warm)))) - (wr (rv_16 * (wr ((wr (e_13.Over - e_14.Start)) - e_3.Warm)))))) rv_17 hx_32) rfl rfl fun a w hF hS => ?_
           refine nil (then_n ⟨hS.weak ⟨rfl, rfl, rfl, rfl, rfl, trivial⟩, ?_⟩)
           exact toTailV ⟨hF.weak ⟨rfl, rfl, rfl, rfl, rfl, rfl, rfl, rfl, rfl, rfl, trivial⟩, hS.weak ⟨rfl, rfl, rfl, rfl, rfl, trivial⟩⟩
          rintro a w ⟨hF, hS⟩
          refine step hF (Y.gtr hF rfl rfl) rfl fun a hF => ?_
          refine nil (then_n ?_)
          refine cond_b hF rfl (fun hbv_19 => ?_) (fun hbv_19 => ?_)
          ·replace h := cond_t h hbv_19
           refine seq ?_
           refine region ?_
           refine step hF (Y.assign hF rfl) rfl fun a hF => ?_
           refine nil (then_n ?_)
           refine ret_ (blk_r (then_r (then_r (blk_r (then_r ?_)))))
           replace h := ext_some h hxo
           obtain rfl := some_inj h
           exact leaveP Tryd.results7 hF hS (.cons (.tmp rfl) .nil) .nil rfl
          ·replace h := cond_f h hbv_19
           refine skip_ (blk_n (then_n ?_))
           exact ⟨v4_0, (lives ++ [rv_10]), (bitsOp .or used (gshl 1 e.Machine)), Dv_1, p_7, c_7, (cs ++ cs_2), Stab.le.refl _, hF.weak ⟨rfl, rfl, rfl, rfl, rfl, rfl, rfl, rfl, trivial⟩, hS.weak ⟨rfl, rfl, trivial⟩, hr_4, h⟩
     ·rintro a w ⟨v4_1, lives_1, used_1, Dv_2, p_4, c_4, cs_1, hlev_2, hF, hS, hr_1, h⟩
      unfold remontoirlaw08_SpareTrue_k2 at h
      replace hs := hs.mono hlev_2
      replace hs_1 := hs_1.mono hlev_2
      replace hG := hG.mono hlev_2
      replace hs_2 := hs_2.mono hlev_2
      replace hr := hr.mono hlev_2
      refine region ?_
      refine step hF (Y.move hF rfl) rfl fun a hF => ?_
      refine step hF (Y.add hF rfl rfl) rfl fun a hF => ?_
      refine step hF (Y.assign hF rfl) rfl fun a hF => ?_
      refine nil (then_n ?_)
      exact ⟨_, nxt_some h, v4_1, lives_1, used_1, (wr (i + 1)), Dv_2, p_4, c_4, cs_1, rfl, hlev_1.trans hlev_2, hF.weak ⟨rfl, rfl, rfl, rfl, rfl, rfl, rfl, rfl, trivial⟩, hS.weak ⟨rfl, rfl, trivial⟩, hr_1⟩
    ·replace h := cond_f h hbv_10
     refine exit_ (then_x (then_x (blk_hit (then_n ?_))))
     replace h := ext_some h hxo
     refine seq ?_
     refine region ?_
     refine step hF (Y.loadNL 1 sz_24 hF rfl hS rfl rfl rfl) rfl fun a hF => ?_
     refine step hF (Y.move hF rfl) rfl fun a hF => ?_
     refine step hF (Y.move hF rfl) rfl fun a hF => ?_
     obtain ⟨Dv_3, hlev_3, hs_3, hS⟩ := hS.freezeC (i := 2) (xs := lives) rfl hr
     replace hs := hs.mono hlev_3
     replace hs_1 := hs_1.mono hlev_3
     replace hG := hG.mono hlev_3
     replace hs_2 := hs_2.mono hlev_3
     replace hr := hr.mono hlev_3
     obtain ⟨rv_18, hx_34, h⟩ := bind_some h
     refine O.callS (us := [.agg #[.int .i64 sv.Hours, .int .i64 sv.Gap, .slice p sv.Machines.length c], .slice p_2 rv.1.length c_2, .slice p_3 lives.length c_3]) ca_32 hF hS (spare_Silent_ok hS.stab sv rv.1 lives hs hs_2 hs_3 rv_18 hx_34) rfl rfl fun v_1 Dv_4 a w hR_1 hlev_4 hF hS => ?_
     replace hs := hs.mono hlev_4
     replace hs_1 := hs_1.mono hlev_4
     replace hG := hG.mono hlev_4
     replace hs_2 := hs_2.mono hlev_4
     replace hr := hr.mono hlev_4
     replace hs_3 := hs_3.mono hlev_4
     obtain ⟨p_8, c_8, rfl, hs_4⟩ := hR_1
     refine step hF (Y.move hF rfl) rfl fun a hF => ?_
     refine step hF (Y.extract hF rfl rfl) rfl fun a hF => ?_
     refine step hF (Y.extract hF rfl rfl) rfl fun a hF => ?_
     refine step hF (Y.assign hF rfl) rfl fun a hF => ?_
     refine step hF (Y.assign hF rfl) rfl fun a hF => ?_
     refine nil (then_n ?_)
     refine seq ?_
     refine region ?_
     refine step hF (Y.move hF rfl) rfl fun a hF => ?_
     refine step hF (Y.eql hF rfl rfl) rfl fun a hF => ?_
     refine step hF (Y.move hF rfl) rfl fun a hF => ?_
     refine join (N := 276) (rs := []) (w0 := w0) (D0 := D0) 4 (us := [(4, .bool v4_0), (272, .bool ((rv_18.2 == 0) && ((rv_18.1.length : Int) == 0)))]) (ms := [(1, .cells b [.int .i64 sv.Hours, .int .i64 sv.Gap, .slice p sv.Machines.length c] 24)]) (D' := Dv_4) ?_ ?_
     ·rcases bcases (rv_18.2 == 0) with hbv_21 | hbv_21
      ·-- true
       refine guard_on hF rfl rfl hbv_21 ?_
       refine step hF (Y.move hF rfl) rfl fun a hF => ?_
       refine guard_on hF rfl rfl hbv_21 ?_
       refine step hF (Y.lenSl u_39 hF rfl) rfl fun a hF => ?_
       refine guard_on hF rfl rfl hbv_21 ?_
       refine step hF (Y.eql hF rfl rfl) rfl fun a hF => ?_
       refine step hF (Y.pick_t hF rfl hbv_21 rfl) rfl fun a hF => ?_
       exact nil (then_n ⟨hF.weak ⟨rfl, (by rw [hbv_21]; rfl), trivial⟩, hS.weak ⟨rfl, trivial⟩⟩)
      ·-- false
       refine guard_off hF rfl rfl hbv_21 rfl fun a hF => ?_
       refine guard_off hF rfl rfl hbv_21 rfl fun a hF => ?_
       refine guard_off hF rfl rfl hbv_21 rfl fun a hF => ?_
       refine step hF (Y.pick_f hF rfl hbv_21 rfl) rfl fun a hF => ?_
       exact nil (then_n ⟨hF.weak ⟨rfl, (by rw [hbv_21]; rfl), trivial⟩, hS.weak ⟨rfl, trivial⟩⟩)
     intro a w hF hS
     refine step hF (Y.move hF rfl) rfl fun a hF => ?_
     obtain ⟨t_7, ht_7, h⟩ := bind_some h
     refine join (N := 276) (rs := []) (w0 := w0) (D0 := D0) 2 (us := [(4, .bool v4_0), (275, .bool t_7)]) (ms := [(1, .cells b [.int .i64 sv.Hours, .int .i64 sv.Gap, .slice p sv.Machines.length c] 24)]) (D' := Dv_4) ?_ ?_
     ·rcases bcases ((rv_18.2 == 0) && ((rv_18.1.length : Int) == 0)) with hbv_22 | hbv_22
      ·-- true
       replace h := cond_t ht_7 hbv_22
       refine guard_on hF rfl rfl hbv_22 ?_
       obtain ⟨rv_19, hx_35, h⟩ := bind_some h
       refine O.callP (us := []) ca_21 hF hS (remontoirlaw08_works_ok hS.stab hG rv_19 hx_35) rfl rfl fun a w hF hS => ?_
       refine step hF (Y.pick_t hF rfl hbv_22 rfl) rfl fun a hF => ?_
       obtain rfl := some_inj h
       exact nil (then_n ⟨hF.weak ⟨rfl, rfl, trivial⟩, hS.weak ⟨rfl, trivial⟩⟩)
      ·-- false
       replace h := cond_f ht_7 hbv_22
       refine guard_off hF rfl rfl hbv_22 rfl fun a hF => ?_
       refine step hF (Y.pick_f hF rfl hbv_22 rfl) rfl fun a hF => ?_
       obtain rfl := some_inj h
       exact nil (then_n ⟨hF.weak ⟨rfl, rfl, trivial⟩, hS.weak ⟨rfl, trivial⟩⟩)
     intro a w hF hS
     refine step hF (Y.assign hF rfl) rfl fun a hF => ?_
     refine nil (then_n ?_)
     refine ret_ ?_
     obtain rfl := some_inj h
     exact leaveP Tryd.results7 hF hS (.cons (.tmp rfl) .nil) .nil rfl

end Go.Proofs.YtidmdgjgpmeecaaDoor.Rt
