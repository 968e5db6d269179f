/- Walks of the functions of this seat: what each Go function comes to, as a Lean function, and the proof. A law. Under no conditions. -/
import Derived.Test.YtpniidbbbhbglaaDoorWOZ
set_option linter.unusedVariables false
set_option linter.unusedSimpArgs false
set_option maxRecDepth 100000
set_option maxHeartbeats 4000000
namespace Go.Proofs.YtpniidbbbhbglaaDoor.Rt
open Go Go.RowKit
noncomputable def remontoirlaw02_BeatLeft (c : BeatCellar) (set : Int) : Option Bool :=
  (beat_Wrong c).bind fun rv =>
  (remontoirlaw02_sound c).bind fun rv_1 =>
  cond (!rv_1)
  ((cond ((rv.2 == 20) && ((rv.1.length : Int) == 0)) ((remontoirlaw02_works).bind fun rv_2 =>
  some rv_2) (some false)).bind fun t =>
  some t)
  ((beat_Offset c 0 0).bind fun rv_3 =>
  if ¬ (c.Rates.length : Int) < 0 then
  (remontoirref00_Rest set (gshl 1 (c.Rates.length : Int))).bind fun rv_4 =>
  (remontoirref00_List rv_4 (c.Rates.length : Int)).bind fun rv_5 =>
  (remontoirlaw02_without c rv_5).bind fun rv_6 =>
  (beat_Offset rv_6 0 0).bind fun rv_7 =>
  cond (rv.2 != 0)
  ((cond ((((rv.2 == 22) && ((rv.1.length : Int) == 0)) && (rv_3.2 == rv.2)) && (rv_7.2 == rv.2)) ((remontoirlaw02_works).bind fun rv_8 =>
  some rv_8) (some false)).bind fun t_1 =>
  some t_1)
  ((remontoirlaw02_without c rv.1).bind fun rv_9 =>
  (beat_Offset rv_9 0 0).bind fun rv_10 =>
  (remontoirref00_Climbs rv.1 (c.Rates.length : Int)).bind fun rv_11 =>
  cond ((((!rv_11) || (((rv.1.length : Int) == 0) != (rv_3.2 == 0))) || (rv_10.2 != 0)) || ((rv_7.2 != 0) && (rv_7.2 != 22)))
  (some false)
  ((cond (decide ((rv_5.length : Int) > (rv.1.length : Int))) (some true) ((cond ((rv_5.length : Int) == (rv.1.length : Int)) ((remontoirref00_Ahead rv_5 rv.1).bind fun rv_12 =>
  some (!rv_12)) (some false)).bind fun t_2 =>
  some t_2)).bind fun t_3 =>
  cond t_3
  ((remontoirlaw02_works).bind fun rv_13 =>
  some rv_13)
  ((cond (rv_7.2 == 22) ((remontoirlaw02_works).bind fun rv_14 =>
  some rv_14) (some false)).bind fun t_4 =>
  some t_4)))
  else none)
theorem remontoirlaw02_BeatLeft_ok {w0 : World} {D0 : Stab} (hD : D0.on w0) (c : BeatCellar) (set : Int) {p : Option Addr} {c_1 : Nat} {p_1 : Option Addr} {c_2 : Nat} {p_2 : Option Addr} {c_3 : Nat} (hs : SRc C_Span D0 c.Rates p c_1) (hs_1 : SRc C_BeatOpen D0 c.Opens p_1 c_2) (hs_2 : SRc C_BeatPair D0 c.Pairs p_2 c_3) (hG : Glob D0) (out : Bool) (h : remontoirlaw02_BeatLeft c set = some out) : Calls Tryd.prog 12 [.agg #[.int .i64 c.Hours, .slice p c.Rates.length c_1, .slice p_1 c.Opens.length c_2, .slice p_2 c.Pairs.length c_3], .int .i64 set].toArray w0 (RetP D0 w0 (.bool out)) := by
 refine enter _ 133 Tryd.func12 rfl Tryd.ntmps12 rfl fun a hF => ?_
 replace hF : Frm 133 [] [(0, .agg #[.int .i64 c.Hours, .slice p c.Rates.length c_1, .slice p_1 c.Opens.length c_2, .slice p_2 c.Pairs.length c_3]), (1, .int .i64 set)] a := hF
 have hS := St.start hD
 unfold remontoirlaw02_BeatLeft at h
 refine seq ?_
 refine region ?_
 refine O.box (cs := [.int .i64 c.Hours, .slice p c.Rates.length c_1, .slice p_1 c.Opens.length c_2, .slice p_2 c.Pairs.length c_3]) 1 hF rfl rfl hS rfl fun b a w hF hS => ?_
 refine step hF (Y.assign hF rfl) rfl fun a hF => ?_
 refine nil (then_n ?_)
 refine seq ?_
 refine region ?_
 refine step hF (Y.loadNL 1 sz_26 hF rfl hS rfl rfl rfl) rfl fun a hF => ?_
 obtain ⟨rv, hx, h⟩ := bind_some h
 refine O.callS (us := [.agg #[.int .i64 c.Hours, .slice p c.Rates.length c_1, .slice p_1 c.Opens.length c_2, .slice p_2 c.Pairs.length c_3]]) ca_27 hF hS (beat_Wrong_ok hS.stab c hs hs_1 hs_2 hG rv hx) rfl rfl fun v Dv a w hR hlev hF hS => ?_
 replace hs := hs.mono hlev
 replace hs_1 := hs_1.mono hlev
 replace hs_2 := hs_2.mono hlev
 replace hG := hG.mono hlev
 obtain ⟨p_3, c_4, rfl, hs_3⟩ := hR
 refine step hF (Y.move hF rfl) rfl fun a hF => ?_
 refine step hF (Y.extract hF rfl rfl) rfl fun a hF => ?_
 refine step hF (Y.extract hF rfl rfl) rfl fun a hF => ?_
 refine step hF (Y.assign hF rfl) rfl fun a hF => ?_
 refine step hF (Y.assign hF rfl) rfl fun a hF => ?_
 refine nil (then_n ?_)
 refine seq ?_
 refine seq ?_
 refine region ?_
 refine step hF (Y.loadNL 1 sz_26 hF rfl hS rfl rfl rfl) rfl fun a hF => ?_
 obtain ⟨rv_1, hx_1, h⟩ := bind_some h
 refine O.callP (us := [.agg #[.int .i64 c.Hours, .slice p c.Rates.length c_1, .slice p_1 c.Opens.length c_2, .slice p_2 c.Pairs.length c_3]]) ca_32 hF hS (remontoirlaw02_sound_ok hS.stab c hs hs_1 hs_2 rv_1 hx_1) rfl rfl fun a w hF hS => ?_
 refine step hF (Y.not hF rfl) rfl fun a hF => ?_
 refine nil (then_n ?_)
 refine cond_b hF rfl (fun hbv => ?_) (fun hbv => ?_)
 ·replace h := cond_t h hbv
  refine seq ?_
  refine region ?_
  refine step hF (Y.move hF rfl) rfl fun a hF => ?_
  refine step hF (Y.eql hF rfl rfl) rfl fun a hF => ?_
  refine step hF (Y.move hF rfl) rfl fun a hF => ?_
  refine join (N := 133) (rs := []) (w0 := w0) (D0 := D0) 4 (us := [(1, .int .i64 set), (2, .pointer (some ⟨b, 0, none⟩)), (4, .bool false), (5, .slice p_3 rv.1.length c_4), (6, .int .i64 rv.2), (28, .bool ((rv.2 == 20) && ((rv.1.length : Int) == 0)))]) (ms := [(1, .cells b [.int .i64 c.Hours, .slice p c.Rates.length c_1, .slice p_1 c.Opens.length c_2, .slice p_2 c.Pairs.length c_3] 26)]) (D' := Dv) ?_ ?_
  ·rcases bcases (rv.2 == 20) with hbv_1 | hbv_1
   ·-- true
    refine guard_on hF rfl rfl hbv_1 ?_
    refine step hF (Y.move hF rfl) rfl fun a hF => ?_
    refine guard_on hF rfl rfl hbv_1 ?_
    refine step hF (Y.lenSl u_44 hF rfl) rfl fun a hF => ?_
    refine guard_on hF rfl rfl hbv_1 ?_
    refine step hF (Y.eql hF rfl rfl) rfl fun a hF => ?_
    refine step hF (Y.pick_t hF rfl hbv_1 rfl) rfl fun a hF => ?_
    exact nil (then_n ⟨hF.weak ⟨rfl, rfl, rfl, rfl, rfl, (by rw [hbv_1]; rfl), trivial⟩, hS.weak ⟨rfl, trivial⟩⟩)
   ·-- false
    refine guard_off hF rfl rfl hbv_1 rfl fun a hF => ?_
    refine guard_off hF rfl rfl hbv_1 rfl fun a hF => ?_
    refine guard_off hF rfl rfl hbv_1 rfl fun a hF => ?_
    refine step hF (Y.pick_f hF rfl hbv_1 rfl) rfl fun a hF => ?_
    exact nil (then_n ⟨hF.weak ⟨rfl, rfl, rfl, rfl, rfl, (by rw [hbv_1]; rfl), trivial⟩, hS.weak ⟨rfl, trivial⟩⟩)
  intro a w hF hS
  refine step hF (Y.move hF rfl) rfl fun a hF => ?_
  obtain ⟨t, ht, h⟩ := bind_some h
  refine join (N := 133) (rs := []) (w0 := w0) (D0 := D0) 2 (us := [(1, .int .i64 set), (2, .pointer (some ⟨b, 0, none⟩)), (4, .bool false), (5, .slice p_3 rv.1.length c_4), (6, .int .i64 rv.2), (31, .bool t)]) (ms := [(1, .cells b [.int .i64 c.Hours, .slice p c.Rates.length c_1, .slice p_1 c.Opens.length c_2, .slice p_2 c.Pairs.length c_3] 26)]) (D' := Dv) ?_ ?_
  ·rcases bcases ((rv.2 == 20) && ((rv.1.length : Int) == 0)) with hbv_2 | hbv_2
   ·-- true
    replace h := cond_t ht hbv_2
    refine guard_on hF rfl rfl hbv_2 ?_
    obtain ⟨rv_2, hx_2, h⟩ := bind_some h
    refine O.callP (us := []) ca_21 hF hS (remontoirlaw02_works_ok hS.stab hG rv_2 hx_2) rfl rfl fun a w hF hS => ?_
    refine step hF (Y.pick_t hF rfl hbv_2 rfl) rfl fun a hF => ?_
    obtain rfl := some_inj h
    exact nil (then_n ⟨hF.weak ⟨rfl, rfl, rfl, rfl, rfl, rfl, trivial⟩, hS.weak ⟨rfl, trivial⟩⟩)
   ·-- false
    replace h := cond_f ht hbv_2
    refine guard_off hF rfl rfl hbv_2 rfl fun a hF => ?_
    refine step hF (Y.pick_f hF rfl hbv_2 rfl) rfl fun a hF => ?_
    obtain rfl := some_inj h
    exact nil (then_n ⟨hF.weak ⟨rfl, rfl, rfl, rfl, rfl, rfl, trivial⟩, hS.weak ⟨rfl, trivial⟩⟩)
  intro a w hF hS
  refine step hF (Y.assign hF rfl) rfl fun a hF => ?_
  refine nil (then_n ?_)
  refine ret_ (then_r ?_)
  obtain rfl := some_inj h
  exact leaveP Tryd.results12 hF hS (.cons (.tmp rfl) .nil) .nil rfl
 ·replace h := cond_f h hbv
  refine skip_ (then_n ?_)
  refine seq ?_
  refine region ?_
  refine step hF (Y.loadNL 1 sz_26 hF rfl hS rfl rfl rfl) rfl fun a hF => ?_
  obtain ⟨rv_3, hx_3, h⟩ := bind_some h
  refine O.callP (us := [.agg #[.int .i64 c.Hours, .slice p c.Rates.length c_1, .slice p_1 c.Opens.length c_2, .slice p_2 c.Pairs.length c_3], .int .i64 0, .int .i64 0]) ca_19 hF hS (beat_Offset_ok hS.stab c 0 0 hs hs_1 hs_2 hG rv_3 hx_3) rfl rfl fun a w hF hS => ?_
  refine step hF (Y.move hF rfl) rfl fun a hF => ?_
  refine step hF (Y.extract hF rfl rfl) rfl fun a hF => ?_
  refine step hF (Y.extract hF rfl rfl) rfl fun a hF => ?_
  refine O.alloc 2 zc_34 hF hS rfl fun b_1 a w hF hS => ?_
  refine O.store (us := [.int .i64 rv_3.1.Low, .int .i64 rv_3.1.High]) 2 sz_34 hF rfl rfl rfl rfl hS rfl rfl fun a w hF hS => ?_
  refine step hF (Y.assign hF rfl) rfl fun a hF => ?_
  refine nil (then_n ?_)
  refine seq ?_
  obtain ⟨hg, h⟩ := ite_some h
  obtain ⟨rv_4, hx_4, h⟩ := bind_some h
  refine drawsV 9 (.flt 0 (.flt 1 (.flt 2 (.flt 3 (.flt 4 (.flt 6 (.flt 7 (.flt 8 (.alt 5 .done .stop))))))))) mixed_ (by kernel_rfl) (fun w => St w0 D0 Dv [(1, .cells b [.int .i64 c.Hours, .slice p c.Rates.length c_1, .slice p_1 c.Opens.length c_2, .slice p_2 c.Pairs.length c_3] 26), (2, .cells b_1 [.int .i64 rv_3.1.Low, .int .i64 rv_3.1.High] 34)] w) (fun a w => Frm 133 [] [(2, .pointer (some ⟨b, 0, none⟩)), (4, .bool false), (5, .slice p_3 rv.1.length c_4), (6, .int .i64 rv.2), (8, .int .i64 rv_3.2), (42, .int .i64 rv_4), (45, .int .i64 (c.Rates.length : Int))] a ∧ St w0 D0 Dv [(1, .cells b [.int .i64 c.Hours, .slice p c.Rates.length c_1, .slice p_1 c.Opens.length c_2, .slice p_2 c.Pairs.length c_3] 26), (2, .cells b_1 [.int .i64 rv_3.1.Low, .int .i64 rv_3.1.High] 34)] w) (hS.weak (ms := [(1, .cells b [.int .i64 c.Hours, .slice p c.Rates.length c_1, .slice p_1 c.Opens.length c_2, .slice p_2 c.Pairs.length c_3] 26), (2, .cells b_1 [.int .i64 rv_3.1.Low, .int .i64 rv_3.1.High] 34)]) ⟨rfl, rfl, trivial⟩).drew (fun _ _ _ _ h => h) ?_ ?_
  ·replace hS := hS.drew
   have hle0 := hS.le
   refine stepV (i := 0) rfl hF (fun w hS => Y.move hF rfl) rfl fun a hF => ?_
   refine stepV (i := 1) rfl hF (fun w hS => Y.fieldAddr fo_26_1 hF rfl) rfl fun a hF => ?_
   refine stepV (i := 2) rfl hF (fun w hS => Y.load1L 1 sz_22 hF rfl hS rfl rfl) rfl fun a hF => ?_
   refine stepV (i := 3) rfl hF (fun w hS => Y.lenSl u_22 hF rfl) rfl fun a hF => ?_
   refine stepV (i := 4) rfl hF (fun w hS => Y.shl hF rfl rfl hg) rfl fun a hF => ?_
   refine stepV (i := 6) rfl hF (fun w hS => Y.fieldAddr fo_26_1 hF rfl) rfl fun a hF => ?_
   refine stepV (i := 7) rfl hF (fun w hS => Y.load1L 1 sz_22 hF rfl hS rfl rfl) rfl fun a hF => ?_
   refine stepV (i := 8) rfl hF (fun w hS => Y.lenSl u_22 hF rfl) rfl fun a hF => ?_
   refine oneV (i := 5) rfl ?_ trivial
   refine O.callP (us := [.int .i64 set, .int .i64 (gshl 1 (c.Rates.length : Int))]) ca_34 hF hS (remontoirref00_Rest_ok hS.stab set (gshl 1 (c.Rates.length : Int)) rv_4 hx_4) rfl rfl fun a w hF hS => ?_
   refine nil (then_n ⟨hS.weak (ms := [(1, .cells b [.int .i64 c.Hours, .slice p c.Rates.length c_1, .slice p_1 c.Opens.length c_2, .slice p_2 c.Pairs.length c_3] 26), (2, .cells b_1 [.int .i64 rv_3.1.Low, .int .i64 rv_3.1.High] 34)]) ⟨rfl, rfl, trivial⟩, ?_⟩)
   exact toTailV ⟨hF.weak ⟨rfl, rfl, rfl, rfl, rfl, rfl, rfl, trivial⟩, hS.weak ⟨rfl, rfl, trivial⟩⟩
  rintro a w ⟨hF, hS⟩
  obtain ⟨rv_5, hx_5, h⟩ := bind_some h
  refine O.callS (us := [.int .i64 rv_4, .int .i64 (c.Rates.length : Int)]) ca_38 hF hS (remontoirref00_List_ok hS.stab rv_4 (c.Rates.length : Int) rv_5 hx_5) rfl rfl fun v_1 Dv_1 a w hR_1 hlev_1 hF hS => ?_
  replace hs := hs.mono hlev_1
  replace hs_1 := hs_1.mono hlev_1
  replace hs_2 := hs_2.mono hlev_1
  replace hG := hG.mono hlev_1
  replace hs_3 := hs_3.mono hlev_1
  obtain ⟨p_4, c_5, rfl, hs_4⟩ := hR_1
  refine step hF (Y.assign hF rfl) rfl fun a hF => ?_
  refine nil (then_n ?_)
  refine seq ?_
  refine region ?_
  refine step hF (Y.loadNL 1 sz_26 hF rfl hS rfl rfl rfl) rfl fun a hF => ?_
  refine step hF (Y.move hF rfl) rfl fun a hF => ?_
  obtain ⟨rv_6, hx_6, h⟩ := bind_some h
  refine O.callS (us := [.agg #[.int .i64 c.Hours, .slice p c.Rates.length c_1, .slice p_1 c.Opens.length c_2, .slice p_2 c.Pairs.length c_3], .slice p_4 rv_5.length c_5]) ca_39 hF hS (remontoirlaw02_without_ok hS.stab c rv_5 hs hs_1 hs_2 hs_4 rv_6 hx_6) rfl rfl fun v_2 Dv_2 a w hR_2 hlev_2 hF hS => ?_
  replace hs := hs.mono hlev_2
  replace hs_1 := hs_1.mono hlev_2
  replace hs_2 := hs_2.mono hlev_2
  replace hG := hG.mono hlev_2
  replace hs_3 := hs_3.mono hlev_2
  replace hs_4 := hs_4.mono hlev_2
  obtain ⟨p_5, c_6, p_6, c_7, p_7, c_8, rfl, hs_5, hs_6, hs_7⟩ := hR_2
  obtain ⟨rv_7, hx_7, h⟩ := bind_some h
  refine O.callP (us := [.agg #[.int .i64 rv_6.Hours, .slice p_5 rv_6.Rates.length c_6, .slice p_6 rv_6.Opens.length c_7, .slice p_7 rv_6.Pairs.length c_8], .int .i64 0, .int .i64 0]) ca_19 hF hS (beat_Offset_ok hS.stab rv_6 0 0 hs_5 hs_6 hs_7 hG rv_7 hx_7) rfl rfl fun a w hF hS => ?_
  refine step hF (Y.move hF rfl) rfl fun a hF => ?_
  refine step hF (Y.extract hF rfl rfl) rfl fun a hF => ?_
  refine step hF (Y.extract hF rfl rfl) rfl fun a hF => ?_
  refine O.alloc 3 zc_34 hF hS rfl fun b_2 a w hF hS => ?_
  refine O.store (us := [.int .i64 rv_7.1.Low, .int .i64 rv_7.1.High]) 3 sz_34 hF rfl rfl rfl rfl hS rfl rfl fun a w hF hS => ?_
  refine step hF (Y.assign hF rfl) rfl fun a hF => ?_
  refine nil (then_n ?_)
  refine seq ?_
  refine seq ?_
  refine region ?_
  refine step hF (Y.move hF rfl) rfl fun a hF => ?_
  refine step hF (Y.neq hF rfl rfl) rfl fun a hF => ?_
  refine nil (then_n ?_)
  refine cond_b hF rfl (fun hbv_3 => ?_) (fun hbv_3 => ?_)
  ·replace h := cond_t h hbv_3
   refine seq ?_
   refine region ?_
   refine step hF (Y.move hF rfl) rfl fun a hF => ?_
   refine step hF (Y.eql hF rfl rfl) rfl fun a hF => ?_
   refine step hF (Y.move hF rfl) rfl fun a hF => ?_
   refine join (N := 133) (rs := []) (w0 := w0) (D0 := D0) 4 (us := [(2, .pointer (some ⟨b, 0, none⟩)), (4, .bool false), (5, .slice p_3 rv.1.length c_4), (6, .int .i64 rv.2), (8, .int .i64 rv_3.2), (9, .slice p_4 rv_5.length c_5), (11, .int .i64 rv_7.2), (62, .bool ((rv.2 == 22) && ((rv.1.length : Int) == 0)))]) (ms := [(1, .cells b [.int .i64 c.Hours, .slice p c.Rates.length c_1, .slice p_1 c.Opens.length c_2, .slice p_2 c.Pairs.length c_3] 26), (2, .cells b_1 [.int .i64 rv_3.1.Low, .int .i64 rv_3.1.High] 34), (3, .cells b_2 [.int .i64 rv_7.1.Low, .int .i64 rv_7.1.High] 34)]) (D' := Dv_2) ?_ ?_
   ·rcases bcases (rv.2 == 22) with hbv_4 | hbv_4
    ·-- true
     refine guard_on hF rfl rfl hbv_4 ?_
     refine step hF (Y.move hF rfl) rfl fun a hF => ?_
     refine guard_on hF rfl rfl hbv_4 ?_
     refine step hF (Y.lenSl u_44 hF rfl) rfl fun a hF => ?_
     refine guard_on hF rfl rfl hbv_4 ?_
     refine step hF (Y.eql hF rfl rfl) rfl fun a hF => ?_
     refine step hF (Y.pick_t hF rfl hbv_4 rfl) rfl fun a hF => ?_
     exact nil (then_n ⟨hF.weak ⟨rfl, rfl, rfl, rfl, rfl, rfl, rfl, (by rw [hbv_4]; rfl), trivial⟩, hS.weak ⟨rfl, rfl, rfl, trivial⟩⟩)
    ·-- false
     refine guard_off hF rfl rfl hbv_4 rfl fun a hF => ?_
     refine guard_off hF rfl rfl hbv_4 rfl fun a hF => ?_
     refine guard_off hF rfl rfl hbv_4 rfl fun a hF => ?_
     refine step hF (Y.pick_f hF rfl hbv_4 rfl) rfl fun a hF => ?_
     exact nil (then_n ⟨hF.weak ⟨rfl, rfl, rfl, rfl, rfl, rfl, rfl, (by rw [hbv_4]; rfl), trivial⟩, hS.weak ⟨rfl, rfl, rfl, trivial⟩⟩)
   intro a w hF hS
   refine step hF (Y.move hF rfl) rfl fun a hF => ?_
   refine join (N := 133) (rs := []) (w0 := w0) (D0 := D0) 4 (us := [(2, .pointer (some ⟨b, 0, none⟩)), (4, .bool false), (5, .slice p_3 rv.1.length c_4), (6, .int .i64 rv.2), (8, .int .i64 rv_3.2), (9, .slice p_4 rv_5.length c_5), (11, .int .i64 rv_7.2), (67, .bool (((rv.2 == 22) && ((rv.1.length : Int) == 0)) && (rv_3.2 == rv.2)))]) (ms := [(1, .cells b [.int .i64 c.Hours, .slice p c.Rates.length c_1, .slice p_1 c.Opens.length c_2, .slice p_2 c.Pairs.length c_3] 26), (2, .cells b_1 [.int .i64 rv_3.1.Low, .int .i64 rv_3.1.High] 34), (3, .cells b_2 [.int .i64 rv_7.1.Low, .int .i64 rv_7.1.High] 34)]) (D' := Dv_2) ?_ ?_
   ·rcases bcases ((rv.2 == 22) && ((rv.1.length : Int) == 0)) with hbv_5 | hbv_5
    ·-- true
     refine guard_on hF rfl rfl hbv_5 ?_
     refine step hF (Y.move hF rfl) rfl fun a hF => ?_
     refine guard_on hF rfl rfl hbv_5 ?_
     refine step hF (Y.move hF rfl) rfl fun a hF => ?_
     refine guard_on hF rfl rfl hbv_5 ?_
     refine step hF (Y.eql hF rfl rfl) rfl fun a hF => ?_
     refine step hF (Y.pick_t hF rfl hbv_5 rfl) rfl fun a hF => ?_
     exact nil (then_n ⟨hF.weak ⟨rfl, rfl, rfl, rfl, rfl, rfl, rfl, (by rw [hbv_5]; rfl), trivial⟩, hS.weak ⟨rfl, rfl, rfl, trivial⟩⟩)
    ·-- false
     refine guard_off hF rfl rfl hbv_5 rfl fun a hF => ?_
     refine guard_off hF rfl rfl hbv_5 rfl fun a hF => ?_
     refine guard_off hF rfl rfl hbv_5 rfl fun a hF => ?_
     refine step hF (Y.pick_f hF rfl hbv_5 rfl) rfl fun a hF => ?_
     exact nil (then_n ⟨hF.weak ⟨rfl, rfl, rfl, rfl, rfl, rfl, rfl, (by rw [hbv_5]; rfl), trivial⟩, hS.weak ⟨rfl, rfl, rfl, trivial⟩⟩)
   intro a w hF hS
   refine step hF (Y.move hF rfl) rfl fun a hF => ?_
   refine join (N := 133) (rs := []) (w0 := w0) (D0 := D0) 4 (us := [(2, .pointer (some ⟨b, 0, none⟩)), (4, .bool false), (5, .slice p_3 rv.1.length c_4), (8, .int .i64 rv_3.2), (9, .slice p_4 rv_5.length c_5), (11, .int .i64 rv_7.2), (72, .bool ((((rv.2 == 22) && ((rv.1.length : Int) == 0)) && (rv_3.2 == rv.2)) && (rv_7.2 == rv.2)))]) (ms := [(1, .cells b [.int .i64 c.Hours, .slice p c.Rates.length c_1, .slice p_1 c.Opens.length c_2, .slice p_2 c.Pairs.length c_3] 26), (2, .cells b_1 [.int .i64 rv_3.1.Low, .int .i64 rv_3.1.High] 34), (3, .cells b_2 [.int .i64 rv_7.1.Low, .int .i64 rv_7.1.High] 34)]) (D' := Dv_2) ?_ ?_
   ·rcases bcases (((rv.2 == 22) && ((rv.1.length : Int) == 0)) && (rv_3.2 == rv.2)) with hbv_6 | hbv_6
    ·-- true
     refine guard_on hF rfl rfl hbv_6 ?_
     refine step hF (Y.move hF rfl) rfl fun a hF => ?_
     refine guard_on hF rfl rfl hbv_6 ?_
     refine step hF (Y.move hF rfl) rfl fun a hF => ?_
     refine guard_on hF rfl rfl hbv_6 ?_
     refine step hF (Y.eql hF rfl rfl) rfl fun a hF => ?_
     refine step hF (Y.pick_t hF rfl hbv_6 rfl) rfl fun a hF => ?_
     exact nil (then_n ⟨hF.weak ⟨rfl, rfl, rfl, rfl, rfl, rfl, (by rw [hbv_6]; rfl), trivial⟩, hS.weak ⟨rfl, rfl, rfl, trivial⟩⟩)
    ·-- false
     refine guard_off hF rfl rfl hbv_6 rfl fun a hF => ?_
     refine guard_off hF rfl rfl hbv_6 rfl fun a hF => ?_
     refine guard_off hF rfl rfl hbv_6 rfl fun a hF => ?_
     refine step hF (Y.pick_f hF rfl hbv_6 rfl) rfl fun a hF => ?_
     exact nil (then_n ⟨hF.weak ⟨rfl, rfl, rfl, rfl, rfl, rfl, (by rw [hbv_6]; rfl), trivial⟩, hS.weak ⟨rfl, rfl, rfl, trivial⟩⟩)
   intro a w hF hS
   refine step hF (Y.move hF rfl) rfl fun a hF => ?_
   obtain ⟨t_1, ht_1, h⟩ := bind_some h
   refine join (N := 133) (rs := []) (w0 := w0) (D0 := D0) 2 (us := [(2, .pointer (some ⟨b, 0, none⟩)), (4, .bool false), (5, .slice p_3 rv.1.length c_4), (8, .int .i64 rv_3.2), (9, .slice p_4 rv_5.length c_5), (11, .int .i64 rv_7.2), (75, .bool t_1)]) (ms := [(1, .cells b [.int .i64 c.Hours, .slice p c.Rates.length c_1, .slice p_1 c.Opens.length c_2, .slice p_2 c.Pairs.length c_3] 26), (2, .cells b_1 [.int .i64 rv_3.1.Low, .int .i64 rv_3.1.High] 34), (3, .cells b_2 [.int .i64 rv_7.1.Low, .int .i64 rv_7.1.High] 34)]) (D' := Dv_2) ?_ ?_
   ·rcases bcases ((((rv.2 == 22) && ((rv.1.length : Int) == 0)) && (rv_3.2 == rv.2)) && (rv_7.2 == rv.2)) with hbv_7 | hbv_7
    ·-- true
     replace h := cond_t ht_1 hbv_7
     refine guard_on hF rfl rfl hbv_7 ?_
     obtain ⟨rv_8, hx_8, h⟩ := bind_some h
     refine O.callP (us := []) ca_21 hF hS (remontoirlaw02_works_ok hS.stab hG rv_8 hx_8) rfl rfl fun a w hF hS => ?_
     refine step hF (Y.pick_t hF rfl hbv_7 rfl) rfl fun a hF => ?_
     obtain rfl := some_inj h
     exact nil (then_n ⟨hF.weak ⟨rfl, rfl, rfl, rfl, rfl, rfl, rfl, trivial⟩, hS.weak ⟨rfl, rfl, rfl, trivial⟩⟩)
    ·-- false
     replace h := cond_f ht_1 hbv_7
     refine guard_off hF rfl rfl hbv_7 rfl fun a hF => ?_
     refine step hF (Y.pick_f hF rfl hbv_7 rfl) rfl fun a hF => ?_
     obtain rfl := some_inj h
     exact nil (then_n ⟨hF.weak ⟨rfl, rfl, rfl, rfl, rfl, rfl, rfl, trivial⟩, hS.weak ⟨rfl, rfl, rfl, trivial⟩⟩)
   intro a w hF hS
   refine step hF (Y.assign hF rfl) rfl fun a hF => ?_
   refine nil (then_n ?_)
   refine ret_ (then_r ?_)
   obtain rfl := some_inj h
   exact leaveP Tryd.results12 hF hS (.cons (.tmp rfl) .nil) .nil rfl
  ·replace h := cond_f h hbv_3
   refine skip_ (then_n ?_)
   refine seq ?_
   refine region ?_
   refine step hF (Y.loadNL 1 sz_26 hF rfl hS rfl rfl rfl) rfl fun a hF => ?_
   refine step hF (Y.move hF rfl) rfl fun a hF => ?_
   obtain ⟨rv_9, hx_9, h⟩ := bind_some h
   refine O.callS (us := [.agg #[.int .i64 c.Hours, .slice p c.Rates.length c_1, .slice p_1 c.Opens.length c_2, .slice p_2 c.Pairs.length c_3], .slice p_3 rv.1.length c_4]) ca_39 hF hS (remontoirlaw02_without_ok hS.stab c rv.1 hs hs_1 hs_2 hs_3 rv_9 hx_9) rfl rfl fun v_3 Dv_3 a w hR_3 hlev_3 hF hS => ?_
   replace hs := hs.mono hlev_3
   replace hs_1 := hs_1.mono hlev_3
   replace hs_2 := hs_2.mono hlev_3
   replace hG := hG.mono hlev_3
   replace hs_3 := hs_3.mono hlev_3
   replace hs_4 := hs_4.mono hlev_3
   replace hs_5 := hs_5.mono hlev_3
   replace hs_6 := hs_6.mono hlev_3
   replace hs_7 := hs_7.mono hlev_3
   obtain ⟨p_8, c_9, p_9, c_10, p_10, c_11, rfl, hs_8, hs_9, hs_10⟩ := hR_3
   obtain ⟨rv_10, hx_10, h⟩ := bind_some h
   refine O.callP (us := [.agg #[.int .i64 rv_9.Hours, .slice p_8 rv_9.Rates.length c_9, .slice p_9 rv_9.Opens.length c_10, .slice p_10 rv_9.Pairs.length c_11], .int .i64 0, .int .i64 0]) ca_19 hF hS (beat_Offset_ok hS.stab rv_9 0 0 hs_8 hs_9 hs_10 hG rv_10 hx_10) rfl rfl fun a w hF hS => ?_
   refine step hF (Y.move hF rfl) rfl fun a hF => ?_
   refine step hF (Y.extract hF rfl rfl) rfl fun a hF => ?_
   refine step hF (Y.extract hF rfl rfl) rfl fun a hF => ?_
   refine O.alloc 4 zc_34 hF hS rfl fun b_3 a w hF hS => ?_
   refine O.store (us := [.int .i64 rv_10.1.Low, .int .i64 rv_10.1.High]) 4 sz_34 hF rfl rfl rfl rfl hS rfl rfl fun a w hF hS => ?_
   refine step hF (Y.assign hF rfl) rfl fun a hF => ?_
   refine nil (then_n ?_)
   refine seq ?_
   refine seq ?_
   refine region ?_
   refine step hF (Y.move hF rfl) rfl fun a hF => ?_
   refine step hF (Y.fieldAddr fo_26_1 hF rfl) rfl fun a hF => ?_
   refine step hF (Y.load1L 1 sz_22 hF rfl hS rfl rfl) rfl fun a hF => ?_
   refine step hF (Y.lenSl u_22 hF rfl) rfl fun a hF => ?_
   obtain ⟨rv_11, hx_11, h⟩ := bind_some h
   refine O.callP (us := [.slice p_3 rv.1.length c_4, .int .i64 (c.Rates.length : Int)]) ca_40 hF hS (remontoirref00_Climbs_ok hS.stab rv.1 (c.Rates.length : Int) hs_3 rv_11 hx_11) rfl rfl fun a w hF hS => ?_
   refine step hF (Y.not hF rfl) rfl fun a hF => ?_
   refine step hF (Y.move hF rfl) rfl fun a hF => ?_
   refine join (N := 133) (rs := []) (w0 := w0) (D0 := D0) 7 (us := [(4, .bool false), (5, .slice p_3 rv.1.length c_4), (9, .slice p_4 rv_5.length c_5), (11, .int .i64 rv_7.2), (13, .int .i64 rv_10.2), (96, .bool ((!rv_11) || (((rv.1.length : Int) == 0) != (rv_3.2 == 0))))]) (ms := [(1, .cells b [.int .i64 c.Hours, .slice p c.Rates.length c_1, .slice p_1 c.Opens.length c_2, .slice p_2 c.Pairs.length c_3] 26), (2, .cells b_1 [.int .i64 rv_3.1.Low, .int .i64 rv_3.1.High] 34), (3, .cells b_2 [.int .i64 rv_7.1.Low, .int .i64 rv_7.1.High] 34), (4, .cells b_3 [.int .i64 rv_10.1.Low, .int .i64 rv_10.1.High] 34)]) (D' := Dv_3) ?_ ?_
   ·rcases bcases (!rv_11) with hbv_8 | hbv_8
    ·-- true
     refine guard_off hF rfl rfl hbv_8 rfl fun a hF => ?_
     refine guard_off hF rfl rfl hbv_8 rfl fun a hF => ?_
     refine guard_off hF rfl rfl hbv_8 rfl fun a hF => ?_
     refine guard_off hF rfl rfl hbv_8 rfl fun a hF => ?_
     refine guard_off hF rfl rfl hbv_8 rfl fun a hF => ?_
     refine guard_off hF rfl rfl hbv_8 rfl fun a hF => ?_
     refine step hF (Y.pick_t hF rfl hbv_8 rfl) rfl fun a hF => ?_
     exact nil (then_n ⟨hF.weak ⟨rfl, rfl, rfl, rfl, rfl, (by rw [hbv_8]; rfl), trivial⟩, hS.weak ⟨rfl, rfl, rfl, rfl, trivial⟩⟩)
    ·-- false
     refine guard_on hF rfl rfl hbv_8 ?_
     refine step hF (Y.move hF rfl) rfl fun a hF => ?_
     refine guard_on hF rfl rfl hbv_8 ?_
     refine step hF (Y.lenSl u_44 hF rfl) rfl fun a hF => ?_
     refine guard_on hF rfl rfl hbv_8 ?_
     refine step hF (Y.eql hF rfl rfl) rfl fun a hF => ?_
     refine guard_on hF rfl rfl hbv_8 ?_
     refine step hF (Y.move hF rfl) rfl fun a hF => ?_
     refine guard_on hF rfl rfl hbv_8 ?_
     refine step hF (Y.eql hF rfl rfl) rfl fun a hF => ?_
     refine guard_on hF rfl rfl hbv_8 ?_
     refine step hF (Y.neb u_4 hF rfl rfl) rfl fun a hF => ?_
     refine step hF (Y.pick_f hF rfl hbv_8 rfl) rfl fun a hF => ?_
     exact nil (then_n ⟨hF.weak ⟨rfl, rfl, rfl, rfl, rfl, (by rw [hbv_8]; rfl), trivial⟩, hS.weak ⟨rfl, rfl, rfl, rfl, trivial⟩⟩)
   intro a w hF hS
   refine step hF (Y.move hF rfl) rfl fun a hF => ?_
   refine join (N := 133) (rs := []) (w0 := w0) (D0 := D0) 3 (us := [(4, .bool false), (5, .slice p_3 rv.1.length c_4), (9, .slice p_4 rv_5.length c_5), (11, .int .i64 rv_7.2), (100, .bool (((!rv_11) || (((rv.1.length : Int) == 0) != (rv_3.2 == 0))) || (rv_10.2 != 0)))]) (ms := [(1, .cells b [.int .i64 c.Hours, .slice p c.Rates.length c_1, .slice p_1 c.Opens.length c_2, .slice p_2 c.Pairs.length c_3] 26), (2, .cells b_1 [.int .i64 rv_3.1.Low, .int .i64 rv_3.1.High] 34), (3, .cells b_2 [.int .i64 rv_7.1.Low, .int .i64 rv_7.1.High] 34), (4, .cells b_3 [.int .i64 rv_10.1.Low, .int .i64 rv_10.1.High] 34)]) (D' := Dv_3) ?_ ?_
   ·rcases bcases ((!rv_11) || (((rv.1.length : Int) == 0) != (rv_3.2 == 0))) with hbv_9 | hbv_9
    ·-- true
     refine guard_off hF rfl rfl hbv_9 rfl fun a hF => ?_
     refine guard_off hF rfl rfl hbv_9 rfl fun a hF => ?_
     refine step hF (Y.pick_t hF rfl hbv_9 rfl) rfl fun a hF => ?_
     exact nil (then_n ⟨hF.weak ⟨rfl, rfl, rfl, rfl, (by rw [hbv_9]; rfl), trivial⟩, hS.weak ⟨rfl, rfl, rfl, rfl, trivial⟩⟩)
    ·-- false
     refine guard_on hF rfl rfl hbv_9 ?_
     refine step hF (Y.move hF rfl) rfl fun a hF => ?_
     refine guard_on hF rfl rfl hbv_9 ?_
     refine step hF (Y.neq hF rfl rfl) rfl fun a hF => ?_
     refine step hF (Y.pick_f hF rfl hbv_9 rfl) rfl fun a hF => ?_
     exact nil (then_n ⟨hF.weak ⟨rfl, rfl, rfl, rfl, (by rw [hbv_9]; rfl), trivial⟩, hS.weak ⟨rfl, rfl, rfl, rfl, trivial⟩⟩)
   intro a w hF hS
   refine step hF (Y.move hF rfl) rfl fun a hF => ?_
   refine join (N := 133) (rs := []) (w0 := w0) (D0 := D0) 7 (us := [(4, .bool false), (5, .slice p_3 rv.1.length c_4), (9, .slice p_4 rv_5.length c_5), (11, .int .i64 rv_7.2), (108, .bool ((((!rv_11) || (((rv.1.length : Int) == 0) != (rv_3.2 == 0))) || (rv_10.2 != 0)) || ((rv_7.2 != 0) && (rv_7.2 != 22))))]) (ms := [(1, .cells b [.int .i64 c.Hours, .slice p c.Rates.length c_1, .slice p_1 c.Opens.length c_2, .slice p_2 c.Pairs.length c_3] 26), (2, .cells b_1 [.int .i64 rv_3.1.Low, .int .i64 rv_3.1.High] 34), (3, .cells b_2 [.int .i64 rv_7.1.Low, .int .i64 rv_7.1.High] 34), (4, .cells b_3 [.int .i64 rv_10.1.Low, .int .i64 rv_10.1.High] 34)]) (D' := Dv_3) ?_ ?_
   ·rcases bcases (((!rv_11) || (((rv.1.length : Int) == 0) != (rv_3.2 == 0))) || (rv_10.2 != 0)) with hbv_10 | hbv_10
    ·-- true
     refine guard_off hF rfl rfl hbv_10 rfl fun a hF => ?_
     refine guard_off hF rfl rfl hbv_10 rfl fun a hF => ?_
     refine guard_off hF rfl rfl hbv_10 rfl fun a hF => ?_
     refine guard_offu hF rfl rfl rfl fun a hF => ?_
     refine guard_offu hF rfl rfl rfl fun a hF => ?_
     refine guard_off hF rfl rfl hbv_10 rfl fun a hF => ?_
     refine step hF (Y.pick_t hF rfl hbv_10 rfl) rfl fun a hF => ?_
     exact nil (then_n ⟨hF.weak ⟨rfl, rfl, rfl, rfl, (by rw [hbv_10]; rfl), trivial⟩, hS.weak ⟨rfl, rfl, rfl, rfl, trivial⟩⟩)
    ·-- false
     refine guard_on hF rfl rfl hbv_10 ?_
     refine step hF (Y.move hF rfl) rfl fun a hF => ?_
     refine guard_on hF rfl rfl hbv_10 ?_
     refine step hF (Y.neq hF rfl rfl) rfl fun a hF => ?_
     refine guard_on hF rfl rfl hbv_10 ?_
     refine step hF (Y.move hF rfl) rfl fun a hF => ?_
     refine join (N := 133) (rs := []) (w0 := w0) (D0 := D0) 3 (us := [(4, .bool false), (5, .slice p_3 rv.1.length c_4), (9, .slice p_4 rv_5.length c_5), (11, .int .i64 rv_7.2), (101, .bool (((!rv_11) || (((rv.1.length : Int) == 0) != (rv_3.2 == 0))) || (rv_10.2 != 0))), (107, .bool ((rv_7.2 != 0) && (rv_7.2 != 22)))]) (ms := [(1, .cells b [.int .i64 c.Hours, .slice p c.Rates.length c_1, .slice p_1 c.Opens.length c_2, .slice p_2 c.Pairs.length c_3] 26), (2, .cells b_1 [.int .i64 rv_3.1.Low, .int .i64 rv_3.1.High] 34), (3, .cells b_2 [.int .i64 rv_7.1.Low, .int .i64 rv_7.1.High] 34), (4, .cells b_3 [.int .i64 rv_10.1.Low, .int .i64 rv_10.1.High] 34)]) (D' := Dv_3) ?_ ?_
     ·rcases bcases (rv_7.2 != 0) with hbv_11 | hbv_11
      ·-- true
       refine guard_on hF rfl rfl hbv_11 ?_
       refine step hF (Y.move hF rfl) rfl fun a hF => ?_
       refine guard_on hF rfl rfl hbv_11 ?_
       refine step hF (Y.neq hF rfl rfl) rfl fun a hF => ?_
       refine guard_on hF rfl rfl hbv_10 ?_
       refine step hF (Y.pick_t hF rfl hbv_11 rfl) rfl fun a hF => ?_
       exact nil (then_n ⟨hF.weak ⟨rfl, rfl, rfl, rfl, rfl, (by rw [hbv_11]; rfl), trivial⟩, hS.weak ⟨rfl, rfl, rfl, rfl, trivial⟩⟩)
      ·-- false
       refine guard_off hF rfl rfl hbv_11 rfl fun a hF => ?_
       refine guard_off hF rfl rfl hbv_11 rfl fun a hF => ?_
       refine guard_on hF rfl rfl hbv_10 ?_
       refine step hF (Y.pick_f hF rfl hbv_11 rfl) rfl fun a hF => ?_
       exact nil (then_n ⟨hF.weak ⟨rfl, rfl, rfl, rfl, rfl, (by rw [hbv_11]; rfl), trivial⟩, hS.weak ⟨rfl, rfl, rfl, rfl, trivial⟩⟩)
     intro a w hF hS
     refine step hF (Y.pick_f hF rfl hbv_10 rfl) rfl fun a hF => ?_
     exact nil (then_n ⟨hF.weak ⟨rfl, rfl, rfl, rfl, (by rw [hbv_10]; rfl), trivial⟩, hS.weak ⟨rfl, rfl, rfl, rfl, trivial⟩⟩)
   intro a w hF hS
   refine nil (then_n ?_)
   refine cond_b hF rfl (fun hbv_12 => ?_) (fun hbv_12 => ?_)
   ·replace h := cond_t h hbv_12
    refine seq ?_
    refine region ?_
    refine step hF (Y.assign hF rfl) rfl fun a hF => ?_
    refine nil (then_n ?_)
    refine ret_ (then_r ?_)
    obtain rfl := some_inj h
    exact leaveP Tryd.results12 hF hS (.cons (.tmp rfl) .nil) .nil rfl
   ·replace h := cond_f h hbv_12
    refine skip_ (then_n ?_)
    refine seq ?_
    refine seq ?_
    refine region ?_
    refine step hF (Y.move hF rfl) rfl fun a hF => ?_
    refine step hF (Y.lenSl u_44 hF rfl) rfl fun a hF => ?_
    refine step hF (Y.move hF rfl) rfl fun a hF => ?_
    refine step hF (Y.lenSl u_44 hF rfl) rfl fun a hF => ?_
    refine step hF (Y.gtr hF rfl rfl) rfl fun a hF => ?_
    refine step hF (Y.move hF rfl) rfl fun a hF => ?_
    obtain ⟨t_3, ht_3, h⟩ := bind_some h
    refine join (N := 133) (rs := []) (w0 := w0) (D0 := D0) 12 (us := [(4, .bool false), (11, .int .i64 rv_7.2), (126, .bool t_3)]) (ms := [(1, .cells b [.int .i64 c.Hours, .slice p c.Rates.length c_1, .slice p_1 c.Opens.length c_2, .slice p_2 c.Pairs.length c_3] 26), (2, .cells b_1 [.int .i64 rv_3.1.Low, .int .i64 rv_3.1.High] 34), (3, .cells b_2 [.int .i64 rv_7.1.Low, .int .i64 rv_7.1.High] 34), (4, .cells b_3 [.int .i64 rv_10.1.Low, .int .i64 rv_10.1.High] 34)]) (D' := Dv_3) ?_ ?_
    ·rcases bcases (decide ((rv_5.length : Int) > (rv.1.length : Int))) with hbv_13 | hbv_13
     ·-- true
      replace h := cond_t ht_3 hbv_13
      refine guard_off hF rfl rfl hbv_13 rfl fun a hF => ?_
      refine guard_off hF rfl rfl hbv_13 rfl fun a hF => ?_
      refine guard_off hF rfl rfl hbv_13 rfl fun a hF => ?_
      refine guard_off hF rfl rfl hbv_13 rfl fun a hF => ?_
      refine guard_off hF rfl rfl hbv_13 rfl fun a hF => ?_
      refine guard_off hF rfl rfl hbv_13 rfl fun a hF => ?_
      refine guard_offu hF rfl rfl rfl fun a hF => ?_
      refine guard_offu hF rfl rfl rfl fun a hF => ?_
      refine guard_offu hF rfl rfl rfl fun a hF => ?_
      refine guard_offu hF rfl rfl rfl fun a hF => ?_
      refine guard_off hF rfl rfl hbv_13 rfl fun a hF => ?_
      refine step hF (Y.pick_t hF rfl hbv_13 rfl) rfl fun a hF => ?_
      obtain rfl := some_inj h
      exact nil (then_n ⟨hF.weak ⟨rfl, rfl, rfl, trivial⟩, hS.weak ⟨rfl, rfl, rfl, rfl, trivial⟩⟩)
     ·-- false
      replace h := cond_f ht_3 hbv_13
      refine guard_on hF rfl rfl hbv_13 ?_
      refine step hF (Y.move hF rfl) rfl fun a hF => ?_
      refine guard_on hF rfl rfl hbv_13 ?_
      refine step hF (Y.lenSl u_44 hF rfl) rfl fun a hF => ?_
      refine guard_on hF rfl rfl hbv_13 ?_
      refine step hF (Y.move hF rfl) rfl fun a hF => ?_
      refine guard_on hF rfl rfl hbv_13 ?_
      refine step hF (Y.lenSl u_44 hF rfl) rfl fun a hF => ?_
      refine guard_on hF rfl rfl hbv_13 ?_
      refine step hF (Y.eql hF rfl rfl) rfl fun a hF => ?_
      refine guard_on hF rfl rfl hbv_13 ?_
      refine step hF (Y.move hF rfl) rfl fun a hF => ?_
      obtain ⟨t_2, ht_2, h⟩ := bind_some h
      refine join (N := 133) (rs := []) (w0 := w0) (D0 := D0) 5 (us := [(4, .bool false), (11, .int .i64 rv_7.2), (114, .bool (decide ((rv_5.length : Int) > (rv.1.length : Int)))), (125, .bool t_2)]) (ms := [(1, .cells b [.int .i64 c.Hours, .slice p c.Rates.length c_1, .slice p_1 c.Opens.length c_2, .slice p_2 c.Pairs.length c_3] 26), (2, .cells b_1 [.int .i64 rv_3.1.Low, .int .i64 rv_3.1.High] 34), (3, .cells b_2 [.int .i64 rv_7.1.Low, .int .i64 rv_7.1.High] 34), (4, .cells b_3 [.int .i64 rv_10.1.Low, .int .i64 rv_10.1.High] 34)]) (D' := Dv_3) ?_ ?_
      ·rcases bcases ((rv_5.length : Int) == (rv.1.length : Int)) with hbv_14 | hbv_14
       ·-- true
        replace h := cond_t ht_2 hbv_14
        refine guard_on hF rfl rfl hbv_14 ?_
        refine step hF (Y.move hF rfl) rfl fun a hF => ?_
        refine guard_on hF rfl rfl hbv_14 ?_
        refine step hF (Y.move hF rfl) rfl fun a hF => ?_
        refine guard_on hF rfl rfl hbv_14 ?_
        obtain ⟨rv_12, hx_12, h⟩ := bind_some h
        refine O.callP (us := [.slice p_4 rv_5.length c_5, .slice p_3 rv.1.length c_4]) ca_41 hF hS (remontoirref00_Ahead_ok hS.stab rv_5 rv.1 hs_4 hs_3 rv_12 hx_12) rfl rfl fun a w hF hS => ?_
        refine guard_on hF rfl rfl hbv_14 ?_
        refine step hF (Y.not hF rfl) rfl fun a hF => ?_
        refine guard_on hF rfl rfl hbv_13 ?_
        refine step hF (Y.pick_t hF rfl hbv_14 rfl) rfl fun a hF => ?_
        obtain rfl := some_inj h
        exact nil (then_n ⟨hF.weak ⟨rfl, rfl, rfl, rfl, trivial⟩, hS.weak ⟨rfl, rfl, rfl, rfl, trivial⟩⟩)
       ·-- false
        replace h := cond_f ht_2 hbv_14
        refine guard_off hF rfl rfl hbv_14 rfl fun a hF => ?_
        refine guard_off hF rfl rfl hbv_14 rfl fun a hF => ?_
        refine guard_off hF rfl rfl hbv_14 rfl fun a hF => ?_
        refine guard_off hF rfl rfl hbv_14 rfl fun a hF => ?_
        refine guard_on hF rfl rfl hbv_13 ?_
        refine step hF (Y.pick_f hF rfl hbv_14 rfl) rfl fun a hF => ?_
        obtain rfl := some_inj h
        exact nil (then_n ⟨hF.weak ⟨rfl, rfl, rfl, rfl, trivial⟩, hS.weak ⟨rfl, rfl, rfl, rfl, trivial⟩⟩)
      intro a w hF hS
      refine step hF (Y.pick_f hF rfl hbv_13 rfl) rfl fun a hF => ?_
      obtain rfl := some_inj h
      exact nil (then_n ⟨hF.weak ⟨rfl, rfl, rfl, trivial⟩, hS.weak ⟨rfl, rfl, rfl, rfl, trivial⟩⟩)
    intro a w hF hS
    refine nil (then_n ?_)
    refine cond_b hF rfl (fun hbv_15 => ?_) (fun hbv_15 => ?_)
    ·replace h := cond_t h hbv_15
     refine seq ?_
     refine region ?_
     obtain ⟨rv_13, hx_13, h⟩ := bind_some h
     refine O.callP (us := []) ca_21 hF hS (remontoirlaw02_works_ok hS.stab hG rv_13 hx_13) rfl rfl fun a w hF hS => ?_
     refine step hF (Y.assign hF rfl) rfl fun a hF => ?_
     refine nil (then_n ?_)
     refine ret_ (then_r ?_)
     obtain rfl := some_inj h
     exact leaveP Tryd.results12 hF hS (.cons (.tmp rfl) .nil) .nil rfl
    ·replace h := cond_f h hbv_15
     refine skip_ (then_n ?_)
     refine seq ?_
     refine region ?_
     refine step hF (Y.move hF rfl) rfl fun a hF => ?_
     refine step hF (Y.eql hF rfl rfl) rfl fun a hF => ?_
     refine step hF (Y.move hF rfl) rfl fun a hF => ?_
     obtain ⟨t_4, ht_4, h⟩ := bind_some h
     refine join (N := 133) (rs := []) (w0 := w0) (D0 := D0) 2 (us := [(4, .bool false), (132, .bool t_4)]) (ms := [(1, .cells b [.int .i64 c.Hours, .slice p c.Rates.length c_1, .slice p_1 c.Opens.length c_2, .slice p_2 c.Pairs.length c_3] 26), (2, .cells b_1 [.int .i64 rv_3.1.Low, .int .i64 rv_3.1.High] 34), (3, .cells b_2 [.int .i64 rv_7.1.Low, .int .i64 rv_7.1.High] 34), (4, .cells b_3 [.int .i64 rv_10.1.Low, .int .i64 rv_10.1.High] 34)]) (D' := Dv_3) ?_ ?_
     ·rcases bcases (rv_7.2 == 22) with hbv_16 | hbv_16
      ·-- true
       replace h := cond_t ht_4 hbv_16
       refine guard_on hF rfl rfl hbv_16 ?_
       obtain ⟨rv_14, hx_14, h⟩ := bind_some h
       refine O.callP (us := []) ca_21 hF hS (remontoirlaw02_works_ok hS.stab hG rv_14 hx_14) rfl rfl fun a w hF hS => ?_
       refine step hF (Y.pick_t hF rfl hbv_16 rfl) rfl fun a hF => ?_
       obtain rfl := some_inj h
       exact nil (then_n ⟨hF.weak ⟨rfl, rfl, trivial⟩, hS.weak ⟨rfl, rfl, rfl, rfl, trivial⟩⟩)
      ·-- false
       replace h := cond_f ht_4 hbv_16
       refine guard_off hF rfl rfl hbv_16 rfl fun a hF => ?_
       refine step hF (Y.pick_f hF rfl hbv_16 rfl) rfl fun a hF => ?_
       obtain rfl := some_inj h
       exact nil (then_n ⟨hF.weak ⟨rfl, rfl, trivial⟩, hS.weak ⟨rfl, rfl, rfl, rfl, trivial⟩⟩)
     intro a w hF hS
     refine step hF (Y.assign hF rfl) rfl fun a hF => ?_
     refine nil (then_n ?_)
     refine ret_ ?_
     obtain rfl := some_inj h
     exact leaveP Tryd.results12 hF hS (.cons (.tmp rfl) .nil) .nil rfl

end Go.Proofs.YtpniidbbbhbglaaDoor.Rt
