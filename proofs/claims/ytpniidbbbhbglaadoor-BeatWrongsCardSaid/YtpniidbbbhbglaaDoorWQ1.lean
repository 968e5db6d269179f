/- Walks of the functions of this seat: what each Go function comes to, as a Lean function, and the proof. Part WQ1. Under no conditions. -/
import Derived.Test.YtpniidbbbhbglaaDoorWRZ
set_option linter.unusedVariables false
set_option linter.unusedSimpArgs false
set_option maxRecDepth 100000
set_option maxHeartbeats 4000000
namespace Go.Proofs.YtpniidbbbhbglaaDoor.Rt
open Go Go.RowKit
noncomputable def remontoirref02_Wrong_k2 (set : Int) (best_1 : (List Int)) (found_1 : Bool) : Option (((List Int) × Bool × Int) ⊕ ((List Int) × Int)) :=
  nxt (best_1, found_1, wr (set + 1))
noncomputable def remontoirref02_Wrong_b1 (c : BeatCellar) : ((List Int) × Bool × Int) → Option (((List Int) × Bool × Int) ⊕ ((List Int) × Int))
 | (best, found, set) =>
  if ¬ (c.Rates.length : Int) < 0 then
  cond (decide (set < (gshl 1 (c.Rates.length : Int))))
  ((remontoirref00_List set (c.Rates.length : Int)).bind fun rv_1 =>
  (cond found ((cond (decide ((rv_1.length : Int) > (best.length : Int))) (some true) ((cond ((rv_1.length : Int) == (best.length : Int)) ((remontoirref00_Ahead rv_1 best).bind fun rv_2 =>
  some (!rv_2)) (some false)).bind fun t =>
  some t)).bind fun t_1 =>
  some t_1) (some false)).bind fun t_2 =>
  cond t_2
  (remontoirref02_Wrong_k2 set best found)
  ((remontoirref02_most c set).bind fun rv_3 =>
  cond rv_3.2
  (remontoirref02_Wrong_k2 set rv_1 true)
  (remontoirref02_Wrong_k2 set best found)))
  (ext (cond (!found)
  (some (([] : List Int), 22))
  (some (best, 0))))
  else none
noncomputable def remontoirref02_Wrong (c : BeatCellar) : Option ((List Int) × Int) :=
  (remontoirref02_Check c).bind fun rv =>
  cond (rv != 0)
  (some (([] : List Int), rv))
  (loopU (remontoirref02_Wrong_b1 c) (([] : List Int), false, 0))
theorem remontoirref02_Wrong_ok {w0 : World} {D0 : Stab} (hD : D0.on w0) (c : BeatCellar) {p : Option Addr} {c_1 : Nat} {p_1 : Option Addr} {c_2 : Nat} {p_2 : Option Addr} {c_3 : Nat} (hs : SRc C_Span D0 c.Rates p c_1) (hs_1 : SRc C_BeatOpen D0 c.Opens p_1 c_2) (hs_2 : SRc C_BeatPair D0 c.Pairs p_2 c_3) (out : ((List Int) × Int)) (h : remontoirref02_Wrong c = some out) : Calls Tryd.prog 28 [.agg #[.int .i64 c.Hours, .slice p c.Rates.length c_1, .slice p_1 c.Opens.length c_2, .slice p_2 c.Pairs.length c_3]].toArray w0 (RetS D0 w0 fun D v => ∃ p_7 c_8, v = .tuple #[.slice p_7 out.1.length c_8, .int .i64 out.2] ∧ SRc C_int D out.1 p_7 c_8) := by
 refine enter _ 61 Tryd.func28 rfl Tryd.ntmps28 rfl fun a hF => ?_
 replace hF : Frm 61 [] [(0, .agg #[.int .i64 c.Hours, .slice p c.Rates.length c_1, .slice p_1 c.Opens.length c_2, .slice p_2 c.Pairs.length c_3])] a := hF
 have hS := St.start hD
 unfold remontoirref02_Wrong at h
 refine seq ?_
 refine region ?_
 refine O.box (cs := [.int .i64 c.Hours, .slice p c.Rates.length c_1, .slice p_1 c.Opens.length c_2, .slice p_2 c.Pairs.length c_3]) 1 hF rfl rfl hS rfl fun b a w hF hS => ?_
 refine step hF (Y.assign hF rfl) rfl fun a hF => ?_
 refine step hF (Y.assign hF rfl) rfl fun a hF => ?_
 refine nil (then_n ?_)
 refine seq ?_
 refine seq ?_
 refine region ?_
 refine step hF (Y.loadNL 1 sz_26 hF rfl hS rfl rfl rfl) rfl fun a hF => ?_
 obtain ⟨rv, hx, h⟩ := bind_some h
 refine O.callP (us := [.agg #[.int .i64 c.Hours, .slice p c.Rates.length c_1, .slice p_1 c.Opens.length c_2, .slice p_2 c.Pairs.length c_3]]) ca_18 hF hS (remontoirref02_Check_ok hS.stab c hs hs_1 hs_2 rv hx) rfl rfl fun a w hF hS => ?_
 refine step hF (Y.assign hF rfl) rfl fun a hF => ?_
 refine nil (then_n ?_)
 refine seq ?_
 refine region ?_
 refine step hF (Y.move hF rfl) rfl fun a hF => ?_
 refine step hF (Y.neq hF rfl rfl) rfl fun a hF => ?_
 refine nil (then_n ?_)
 refine cond_b hF rfl (fun hbv => ?_) (fun hbv => ?_)
 ·replace h := cond_t h hbv
  refine seq ?_
  refine region ?_
  refine step hF (Y.move hF rfl) rfl fun a hF => ?_
  refine step hF (Y.assign hF rfl) rfl fun a hF => ?_
  refine step hF (Y.assign hF rfl) rfl fun a hF => ?_
  refine nil (then_n ?_)
  refine ret_ (then_r ?_)
  obtain rfl := some_inj h
  exact leaveS Tryd.results28 hF hS (.cons (.tmp rfl) (.cons (.tmp rfl) .nil)) .nil ⟨_, _, rfl, SRc.nil⟩
 ·replace h := cond_f h hbv
  refine skip_ (then_n ?_)
  refine seq ?_
  refine region ?_
  refine step hF (Y.assign hF rfl) rfl fun a hF => ?_
  refine nil (then_n ?_)
  refine seq ?_
  refine region ?_
  refine step hF (Y.assign hF rfl) rfl fun a hF => ?_
  refine nil (then_n ?_)
  refine seq ?_
  refine seq ?_
  refine region ?_
  refine step hF (Y.assign hF rfl) rfl fun a hF => ?_
  refine nil (then_n ?_)
  refine block ?_
  refine loop_cut (body := remontoirref02_Wrong_b1 c) (out := out) (fun s a w => ∃ (best : (List Int)) (found : Bool) (set : Int), ∃ (Dv : Stab), ∃ p_3 c_4, s = (best, found, set) ∧ D0.le Dv ∧ Frm 61 [] [(1, .pointer (some ⟨b, 0, none⟩)), (2, .slice none 0 0), (3, .int .i64 0), (5, .slice p_3 best.length c_4), (6, .bool found), (7, .int .i64 set)] a ∧ St w0 D0 Dv [(1, .cells b [.int .i64 c.Hours, .slice p c.Rates.length c_1, .slice p_1 c.Opens.length c_2, .slice p_2 c.Pairs.length c_3] 26)] w ∧ SRc C_int Dv best p_3 c_4) (([] : List Int), false, 0) h ⟨([] : List Int), false, 0, D0, none, 0, rfl, Stab.le.refl _, hF.weak ⟨rfl, rfl, rfl, rfl, rfl, rfl, trivial⟩, hS.weak ⟨rfl, trivial⟩, SRc.nil⟩ ?_
  rintro s a w xo ⟨best, found, set, Dv, p_3, c_4, rfl, hlev, hF, hS, hs_3⟩ h hxo
  unfold remontoirref02_Wrong_b1 at h
  dsimp only at h
  replace hs := hs.mono hlev
  replace hs_1 := hs_1.mono hlev
  replace hs_2 := hs_2.mono hlev
  refine seq ?_
  refine seq ?_
  refine region ?_
  refine step hF (Y.move hF rfl) rfl fun a hF => ?_
  refine step hF (Y.fieldAddr fo_26_1 hF rfl) rfl fun a hF => ?_
  refine step hF (Y.load1L 1 sz_22 hF rfl hS rfl rfl) rfl fun a hF => ?_
  refine step hF (Y.lenSl u_22 hF rfl) rfl fun a hF => ?_
  obtain ⟨hg, h⟩ := ite_some h
  refine step hF (Y.shl hF rfl rfl hg) rfl fun a hF => ?_
  refine step hF (Y.lss hF rfl rfl) rfl fun a hF => ?_
  refine nil (then_n ?_)
  refine cond_b hF rfl (fun hbv_1 => ?_) (fun hbv_1 => ?_)
  ·replace h := cond_t h hbv_1
   refine skip_ (then_n ?_)
   refine seq_cut (fun a w => ∃ (best_1 : (List Int)) (found_1 : Bool), ∃ (Dv_1 : Stab), ∃ p_4 c_5, Dv.le Dv_1 ∧ Frm 61 [] [(1, .pointer (some ⟨b, 0, none⟩)), (2, .slice none 0 0), (3, .int .i64 0), (5, .slice p_4 best_1.length c_5), (6, .bool found_1), (7, .int .i64 set)] a ∧ St w0 D0 Dv_1 [(1, .cells b [.int .i64 c.Hours, .slice p c.Rates.length c_1, .slice p_1 c.Opens.length c_2, .slice p_2 c.Pairs.length c_3] 26)] w ∧ SRc C_int Dv_1 best_1 p_4 c_5 ∧ remontoirref02_Wrong_k2 set best_1 found_1 = some xo) ?_ ?_
   ·skip
    refine block ?_
    refine seq ?_
    refine region ?_
    refine step hF (Y.move hF rfl) rfl fun a hF => ?_
    refine step hF (Y.fieldAddr fo_26_1 hF rfl) rfl fun a hF => ?_
    refine step hF (Y.load1L 1 sz_22 hF rfl hS rfl rfl) rfl fun a hF => ?_
    refine step hF (Y.lenSl u_22 hF rfl) rfl fun a hF => ?_
    obtain ⟨rv_1, hx_1, h⟩ := bind_some h
    refine O.callS (us := [.int .i64 set, .int .i64 (c.Rates.length : Int)]) ca_38 hF hS (remontoirref00_List_ok hS.stab set (c.Rates.length : Int) rv_1 hx_1) rfl rfl fun v Dv_2 a w hR hlev_2 hF hS => ?_
    replace hs := hs.mono hlev_2
    replace hs_1 := hs_1.mono hlev_2
    replace hs_2 := hs_2.mono hlev_2
    replace hs_3 := hs_3.mono hlev_2
    obtain ⟨p_5, c_6, rfl, hs_5⟩ := hR
    refine step hF (Y.assign hF rfl) rfl fun a hF => ?_
    refine nil (then_n ?_)
    refine seq ?_
    refine seq ?_
    refine region ?_
    refine step hF (Y.move hF rfl) rfl fun a hF => ?_
    refine step hF (Y.move hF rfl) rfl fun a hF => ?_
    obtain ⟨t_2, ht_2, h⟩ := bind_some h
    refine join (N := 61) (rs := []) (w0 := w0) (D0 := D0) 19 (us := [(1, .pointer (some ⟨b, 0, none⟩)), (2, .slice none 0 0), (3, .int .i64 0), (5, .slice p_3 best.length c_4), (6, .bool found), (7, .int .i64 set), (8, .slice p_5 rv_1.length c_6), (49, .bool t_2)]) (ms := [(1, .cells b [.int .i64 c.Hours, .slice p c.Rates.length c_1, .slice p_1 c.Opens.length c_2, .slice p_2 c.Pairs.length c_3] 26)]) (D' := Dv_2) ?_ ?_
    ·rcases bcases found with hbv_2 | hbv_2
     ·-- true
      replace h := cond_t ht_2 hbv_2
      refine guard_on hF rfl rfl hbv_2 ?_
      refine step hF (Y.move hF rfl) rfl fun a hF => ?_
      refine guard_on hF rfl rfl hbv_2 ?_
      refine step hF (Y.lenSl u_44 hF rfl) rfl fun a hF => ?_
      refine guard_on hF rfl rfl hbv_2 ?_
      refine step hF (Y.move hF rfl) rfl fun a hF => ?_
      refine guard_on hF rfl rfl hbv_2 ?_
      refine step hF (Y.lenSl u_44 hF rfl) rfl fun a hF => ?_
      refine guard_on hF rfl rfl hbv_2 ?_
      refine step hF (Y.gtr hF rfl rfl) rfl fun a hF => ?_
      refine guard_on hF rfl rfl hbv_2 ?_
      refine step hF (Y.move hF rfl) rfl fun a hF => ?_
      obtain ⟨t_1, ht_1, h⟩ := bind_some h
      refine join (N := 61) (rs := []) (w0 := w0) (D0 := D0) 12 (us := [(1, .pointer (some ⟨b, 0, none⟩)), (2, .slice none 0 0), (3, .int .i64 0), (5, .slice p_3 best.length c_4), (6, .bool found), (7, .int .i64 set), (8, .slice p_5 rv_1.length c_6), (30, .bool found), (48, .bool t_1)]) (ms := [(1, .cells b [.int .i64 c.Hours, .slice p c.Rates.length c_1, .slice p_1 c.Opens.length c_2, .slice p_2 c.Pairs.length c_3] 26)]) (D' := Dv_2) ?_ ?_
      ·rcases bcases (decide ((rv_1.length : Int) > (best.length : Int))) with hbv_3 | hbv_3
       ·-- true
        replace h := cond_t ht_1 hbv_3
        refine guard_off hF rfl rfl hbv_3 rfl fun a hF => ?_
        refine guard_off hF rfl rfl hbv_3 rfl fun a hF => ?_
        refine guard_off hF rfl rfl hbv_3 rfl fun a hF => ?_
        refine guard_off hF rfl rfl hbv_3 rfl fun a hF => ?_
        refine guard_off hF rfl rfl hbv_3 rfl fun a hF => ?_
        refine guard_off hF rfl rfl hbv_3 rfl fun a hF => ?_
        refine guard_offu hF rfl rfl rfl fun a hF => ?_
        refine guard_offu hF rfl rfl rfl fun a hF => ?_
        refine guard_offu hF rfl rfl rfl fun a hF => ?_
        refine guard_offu hF rfl rfl rfl fun a hF => ?_
        refine guard_off hF rfl rfl hbv_3 rfl fun a hF => ?_
        refine guard_on hF rfl rfl hbv_2 ?_
        refine step hF (Y.pick_t hF rfl hbv_3 rfl) rfl fun a hF => ?_
        obtain rfl := some_inj h
        exact nil (then_n ⟨hF.weak ⟨rfl, rfl, rfl, rfl, rfl, rfl, rfl, rfl, rfl, trivial⟩, hS.weak ⟨rfl, trivial⟩⟩)
       ·-- false
        replace h := cond_f ht_1 hbv_3
        refine guard_on hF rfl rfl hbv_3 ?_
        refine step hF (Y.move hF rfl) rfl fun a hF => ?_
        refine guard_on hF rfl rfl hbv_3 ?_
        refine step hF (Y.lenSl u_44 hF rfl) rfl fun a hF => ?_
        refine guard_on hF rfl rfl hbv_3 ?_
        refine step hF (Y.move hF rfl) rfl fun a hF => ?_
        refine guard_on hF rfl rfl hbv_3 ?_
        refine step hF (Y.lenSl u_44 hF rfl) rfl fun a hF => ?_
        refine guard_on hF rfl rfl hbv_3 ?_
        refine step hF (Y.eql hF rfl rfl) rfl fun a hF => ?_
        refine guard_on hF rfl rfl hbv_3 ?_
        refine step hF (Y.move hF rfl) rfl fun a hF => ?_
        obtain ⟨t, ht, h⟩ := bind_some h
        refine join (N := 61) (rs := []) (w0 := w0) (D0 := D0) 5 (us := [(1, .pointer (some ⟨b, 0, none⟩)), (2, .slice none 0 0), (3, .int .i64 0), (5, .slice p_3 best.length c_4), (6, .bool found), (7, .int .i64 set), (8, .slice p_5 rv_1.length c_6), (30, .bool found), (36, .bool (decide ((rv_1.length : Int) > (best.length : Int)))), (47, .bool t)]) (ms := [(1, .cells b [.int .i64 c.Hours, .slice p c.Rates.length c_1, .slice p_1 c.Opens.length c_2, .slice p_2 c.Pairs.length c_3] 26)]) (D' := Dv_2) ?_ ?_
        ·rcases bcases ((rv_1.length : Int) == (best.length : Int)) with hbv_4 | hbv_4
         ·-- true
          replace h := cond_t ht hbv_4
          refine guard_on hF rfl rfl hbv_4 ?_
          refine step hF (Y.move hF rfl) rfl fun a hF => ?_
          refine guard_on hF rfl rfl hbv_4 ?_
          refine step hF (Y.move hF rfl) rfl fun a hF => ?_
          refine guard_on hF rfl rfl hbv_4 ?_
          obtain ⟨rv_2, hx_2, h⟩ := bind_some h
          refine O.callP (us := [.slice p_5 rv_1.length c_6, .slice p_3 best.length c_4]) ca_41 hF hS (remontoirref00_Ahead_ok hS.stab rv_1 best hs_5 hs_3 rv_2 hx_2) rfl rfl fun a w hF hS => ?_
          refine guard_on hF rfl rfl hbv_4 ?_
          refine step hF (Y.not hF rfl) rfl fun a hF => ?_
          refine guard_on hF rfl rfl hbv_3 ?_
          refine step hF (Y.pick_t hF rfl hbv_4 rfl) rfl fun a hF => ?_
          obtain rfl := some_inj h
          exact nil (then_n ⟨hF.weak ⟨rfl, rfl, rfl, rfl, rfl, rfl, rfl, rfl, rfl, rfl, trivial⟩, hS.weak ⟨rfl, trivial⟩⟩)
         ·-- false
          replace h := cond_f ht hbv_4
          refine guard_off hF rfl rfl hbv_4 rfl fun a hF => ?_
          refine guard_off hF rfl rfl hbv_4 rfl fun a hF => ?_
          refine guard_off hF rfl rfl hbv_4 rfl fun a hF => ?_
          refine guard_off hF rfl rfl hbv_4 rfl fun a hF => ?_
          refine guard_on hF rfl rfl hbv_3 ?_
          refine step hF (Y.pick_f hF rfl hbv_4 rfl) rfl fun a hF => ?_
          obtain rfl := some_inj h
          exact nil (then_n ⟨hF.weak ⟨rfl, rfl, rfl, rfl, rfl, rfl, rfl, rfl, rfl, rfl, trivial⟩, hS.weak ⟨rfl, trivial⟩⟩)
        intro a w hF hS
        refine guard_on hF rfl rfl hbv_2 ?_
        refine step hF (Y.pick_f hF rfl hbv_3 rfl) rfl fun a hF => ?_
        obtain rfl := some_inj h
        exact nil (then_n ⟨hF.weak ⟨rfl, rfl, rfl, rfl, rfl, rfl, rfl, rfl, rfl, trivial⟩, hS.weak ⟨rfl, trivial⟩⟩)
      intro a w hF hS
      refine step hF (Y.pick_t hF rfl hbv_2 rfl) rfl fun a hF => ?_
      obtain rfl := some_inj h
      exact nil (then_n ⟨hF.weak ⟨rfl, rfl, rfl, rfl, rfl, rfl, rfl, rfl, trivial⟩, hS.weak ⟨rfl, trivial⟩⟩)
     ·-- false
      replace h := cond_f ht_2 hbv_2
      refine guard_off hF rfl rfl hbv_2 rfl fun a hF => ?_
      refine guard_off hF rfl rfl hbv_2 rfl fun a hF => ?_
      refine guard_off hF rfl rfl hbv_2 rfl fun a hF => ?_
      refine guard_off hF rfl rfl hbv_2 rfl fun a hF => ?_
      refine guard_off hF rfl rfl hbv_2 rfl fun a hF => ?_
      refine guard_off hF rfl rfl hbv_2 rfl fun a hF => ?_
      refine guard_offu hF rfl rfl rfl fun a hF => ?_
      refine guard_offu hF rfl rfl rfl fun a hF => ?_
      refine guard_offu hF rfl rfl rfl fun a hF => ?_
      refine guard_offu hF rfl rfl rfl fun a hF => ?_
      refine guard_offu hF rfl rfl rfl fun a hF => ?_
      refine guard_offu hF rfl rfl rfl fun a hF => ?_
      refine guard_offu hF rfl rfl rfl fun a hF => ?_
      refine guard_offu hF rfl rfl rfl fun a hF => ?_
      refine guard_offu hF rfl rfl rfl fun a hF => ?_
      refine guard_offu hF rfl rfl rfl fun a hF => ?_
      refine guard_offu hF rfl rfl rfl fun a hF => ?_
      refine guard_off hF rfl rfl hbv_2 rfl fun a hF => ?_
      refine step hF (Y.pick_f hF rfl hbv_2 rfl) rfl fun a hF => ?_
      obtain rfl := some_inj h
      exact nil (then_n ⟨hF.weak ⟨rfl, rfl, rfl, rfl, rfl, rfl, rfl, rfl, trivial⟩, hS.weak ⟨rfl, trivial⟩⟩)
    intro a w hF hS
    refine nil (then_n ?_)
    refine cond_b hF rfl (fun hbv_5 => ?_) (fun hbv_5 => ?_)
    ·replace h := cond_t h hbv_5
     refine exit_ (then_x (blk_hit (then_n ?_)))
     exact ⟨best, found, Dv_2, p_3, c_4, hlev_2, hF.weak ⟨rfl, rfl, rfl, rfl, rfl, rfl, trivial⟩, hS.weak ⟨rfl, trivial⟩, hs_3, h⟩
    ·replace h := cond_f h hbv_5
     refine skip_ (then_n ?_)
     refine seq ?_
     refine region ?_
     refine step hF (Y.loadNL 1 sz_26 hF rfl hS rfl rfl rfl) rfl fun a hF => ?_
     refine step hF (Y.move hF rfl) rfl fun a hF => ?_
     obtain ⟨rv_3, hx_3, h⟩ := bind_some h
     refine O.callS (us := [.agg #[.int .i64 c.Hours, .slice p c.Rates.length c_1, .slice p_1 c.Opens.length c_2, .slice p_2 c.Pairs.length c_3], .int .i64 set]) ca_63 hF hS (remontoirref02_most_ok hS.stab c set hs hs_1 hs_2 rv_3 hx_3) rfl rfl fun v_1 Dv_3 a w hR_1 hlev_3 hF hS => ?_
     replace hs := hs.mono hlev_3
     replace hs_1 := hs_1.mono hlev_3
     replace hs_2 := hs_2.mono hlev_3
     replace hs_3 := hs_3.mono hlev_3
     replace hs_5 := hs_5.mono hlev_3
     obtain ⟨p_6, c_7, rfl, hs_6⟩ := hR_1
     refine step hF (Y.move hF rfl) rfl fun a hF => ?_
     refine step hF (Y.extract hF rfl rfl) rfl fun a hF => ?_
     refine step hF (Y.extract hF rfl rfl) rfl fun a hF => ?_
     refine step hF (Y.assign hF rfl) rfl fun a hF => ?_
     refine step hF (Y.assign hF rfl) rfl fun a hF => ?_
     refine nil (then_n ?_)
     refine seq ?_
     refine region ?_
     refine step hF (Y.move hF rfl) rfl fun a hF => ?_
     refine nil (then_n ?_)
     refine cond_b hF rfl (fun hbv_6 => ?_) (fun hbv_6 => ?_)
     ·replace h := cond_t h hbv_6
      refine region ?_
      refine step hF (Y.move hF rfl) rfl fun a hF => ?_
      refine step hF (Y.assign hF rfl) rfl fun a hF => ?_
      refine step hF (Y.assign hF rfl) rfl fun a hF => ?_
      refine nil (blk_n (then_n ?_))
      exact ⟨rv_1, true, Dv_3, p_5, c_6, hlev_2.trans hlev_3, hF.weak ⟨rfl, rfl, rfl, rfl, rfl, rfl, trivial⟩, hS.weak ⟨rfl, trivial⟩, hs_5, h⟩
     ·replace h := cond_f h hbv_6
      refine skip_ (blk_n (then_n ?_))
      exact ⟨best, found, Dv_3, p_3, c_4, hlev_2.trans hlev_3, hF.weak ⟨rfl, rfl, rfl, rfl, rfl, rfl, trivial⟩, hS.weak ⟨rfl, trivial⟩, hs_3, h⟩
   ·rintro a w ⟨best_1, found_1, Dv_1, p_4, c_5, hlev_1, hF, hS, hs_4, h⟩
    unfold remontoirref02_Wrong_k2 at h
    replace hs := hs.mono hlev_1
    replace hs_1 := hs_1.mono hlev_1
    replace hs_2 := hs_2.mono hlev_1
    replace hs_3 := hs_3.mono hlev_1
    refine region ?_
    refine step hF (Y.move hF rfl) rfl fun a hF => ?_
    refine step hF (Y.add hF rfl rfl) rfl fun a hF => ?_
    refine step hF (Y.assign hF rfl) rfl fun a hF => ?_
    refine nil (then_n ?_)
    exact ⟨_, nxt_some h, best_1, found_1, (wr (set + 1)), Dv_1, p_4, c_5, rfl, hlev.trans hlev_1, hF.weak ⟨rfl, rfl, rfl, rfl, rfl, rfl, trivial⟩, hS.weak ⟨rfl, trivial⟩, hs_4⟩
  ·replace h := cond_f h hbv_1
   refine exit_ (then_x (then_x (blk_hit (then_n ?_))))
   replace h := ext_some h hxo
   refine seq ?_
   refine seq ?_
   refine region ?_
   refine step hF (Y.move hF rfl) rfl fun a hF => ?_
   refine step hF (Y.not hF rfl) rfl fun a hF => ?_
   refine nil (then_n ?_)
   refine cond_b hF rfl (fun hbv_7 => ?_) (fun hbv_7 => ?_)
   ·replace h := cond_t h hbv_7
    refine seq ?_
    refine region ?_
    refine step hF (Y.assign hF rfl) rfl fun a hF => ?_
    refine step hF (Y.assign hF rfl) rfl fun a hF => ?_
    refine nil (then_n ?_)
    refine ret_ (then_r ?_)
    obtain rfl := some_inj h
    exact leaveS Tryd.results28 hF hS (.cons (.tmp rfl) (.cons (.tmp rfl) .nil)) .nil ⟨_, _, rfl, SRc.nil⟩
   ·replace h := cond_f h hbv_7
    refine skip_ (then_n ?_)
    refine seq ?_
    refine region ?_
    refine step hF (Y.move hF rfl) rfl fun a hF => ?_
    refine step hF (Y.assign hF rfl) rfl fun a hF => ?_
    refine step hF (Y.assign hF rfl) rfl fun a hF => ?_
    refine nil (then_n ?_)
    refine ret_ ?_
    obtain rfl := some_inj h
    exact leaveS Tryd.results28 hF hS (.cons (.tmp rfl) (.cons (.tmp rfl) .nil)) .nil ⟨_, _, rfl, hs_3⟩

end Go.Proofs.YtpniidbbbhbglaaDoor.Rt
