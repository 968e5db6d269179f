/- Walks of the functions of this seat: what each Go function comes to, as a Lean function, and the proof. A law. Under no conditions. -/
import Derived.Test.YtpniidbbbhbglaaDoorWSZ
import Derived.Test.YtpniidbbbhbglaaDoorX10
set_option linter.unusedVariables false
set_option linter.unusedSimpArgs false
set_option maxRecDepth 100000
set_option maxHeartbeats 4000000
namespace Go.Proofs.YtpniidbbbhbglaaDoor.Rt
open Go Go.RowKit
noncomputable def remontoirlaw02_BeatWider (c : BeatCellar) (n : Arr5) : Option Bool :=
  (remontoirlaw02_sound c).bind fun rv =>
  cond (!rv)
  ((remontoirlaw02_works).bind fun rv_1 =>
  some rv_1)
  ((remontoirref00_Rest n.a1 20).bind fun rv_2 =>
  (remontoirref00_Rest n.a0 3).bind fun rv_3 =>
  cond (rv_3 == 0)
  ((remontoirref00_Rest n.a2 (c.Rates.length : Int)).bind fun rv_4 =>
  if ([] : List Span).length + c.Rates.length ≤ lim then
  (idx c.Rates rv_4).bind fun e =>
  (idx c.Rates rv_4).bind fun e_1 =>
  (remontoirref00_To (if wr (e.Low - rv_2) > -1000 then wr (e.Low - rv_2) else -1000) (if wr (e_1.High + rv_2) < 1000 then wr (e_1.High + rv_2) else 1000)).bind fun rv_5 =>
  if (0 : Int) ≤ rv_4 ∧ rv_4 < ((([] : List Span) ++ c.Rates).length : Int) then
  (remontoirref00_Rest n.a3 (c.Rates.length : Int)).bind fun rv_6 =>
  (remontoirref00_Rest n.a4 (wr (c.Hours + 1))).bind fun rv_7 =>
  (beat_Offset c rv_6 rv_7).bind fun rv_8 =>
  (beat_Offset (BeatCellar.mk c.Hours ((([] : List Span) ++ c.Rates).set (Int.toNat rv_4) rv_5) c.Opens c.Pairs) rv_6 rv_7).bind fun rv_9 =>
  (beat_Apart c rv_6 0 rv_7).bind fun rv_10 =>
  (beat_Apart (BeatCellar.mk c.Hours ((([] : List Span) ++ c.Rates).set (Int.toNat rv_4) rv_5) c.Opens c.Pairs) rv_6 0 rv_7).bind fun rv_11 =>
  cond (rv_8.2 != 0)
  ((cond ((((rv_8.2 == 22) && (rv_10.2 == rv_8.2)) && ((rv_9.2 == 0) || (rv_9.2 == rv_8.2))) && (rv_11.2 == rv_9.2)) ((remontoirlaw02_works).bind fun rv_12 =>
  some rv_12) (some false)).bind fun t =>
  some t)
  ((cond (((rv_9.2 == 0) && (rv_10.2 == 0)) && (rv_11.2 == 0)) ((remontoirref00_Within rv_8.1 rv_9.1).bind fun rv_13 =>
  some rv_13) (some false)).bind fun t_1 =>
  (cond t_1 ((remontoirref00_Within rv_10.1 rv_11.1).bind fun rv_14 =>
  some rv_14) (some false)).bind fun t_2 =>
  (cond t_2 ((remontoirlaw02_works).bind fun rv_15 =>
  some rv_15) (some false)).bind fun t_3 =>
  some t_3)
  else none
  else none)
  (cond (rv_3 == 1)
  (cond ((c.Opens.length : Int) == 0)
  ((remontoirlaw02_works).bind fun rv_16 =>
  some rv_16)
  ((remontoirref00_Rest n.a2 (c.Opens.length : Int)).bind fun rv_17 =>
  (idx c.Opens rv_17).bind fun e_2 =>
  (remontoirref00_To (if wr (e_2.Step.Low - rv_2) > -100000 then wr (e_2.Step.Low - rv_2) else -100000) (if wr (e_2.Step.High + rv_2) < 100000 then wr (e_2.Step.High + rv_2) else 100000)).bind fun rv_18 =>
  if ([] : List BeatOpen).length + c.Opens.length ≤ lim then
  if (0 : Int) ≤ rv_17 ∧ rv_17 < ((([] : List BeatOpen) ++ c.Opens).length : Int) then
  (remontoirref00_Rest n.a3 (c.Rates.length : Int)).bind fun rv_19 =>
  (remontoirref00_Rest n.a4 (wr (c.Hours + 1))).bind fun rv_20 =>
  (beat_Offset c rv_19 rv_20).bind fun rv_21 =>
  (beat_Offset (BeatCellar.mk c.Hours c.Rates ((([] : List BeatOpen) ++ c.Opens).set (Int.toNat rv_17) (BeatOpen.mk e_2.Clock e_2.Hour rv_18)) c.Pairs) rv_19 rv_20).bind fun rv_22 =>
  (beat_Apart c rv_19 0 rv_20).bind fun rv_23 =>
  (beat_Apart (BeatCellar.mk c.Hours c.Rates ((([] : List BeatOpen) ++ c.Opens).set (Int.toNat rv_17) (BeatOpen.mk e_2.Clock e_2.Hour rv_18)) c.Pairs) rv_19 0 rv_20).bind fun rv_24 =>
  cond (rv_21.2 != 0)
  ((cond ((((rv_21.2 == 22) && (rv_23.2 == rv_21.2)) && ((rv_22.2 == 0) || (rv_22.2 == rv_21.2))) && (rv_24.2 == rv_22.2)) ((remontoirlaw02_works).bind fun rv_25 =>
  some rv_25) (some false)).bind fun t_4 =>
  some t_4)
  ((cond (((rv_22.2 == 0) && (rv_23.2 == 0)) && (rv_24.2 == 0)) ((remontoirref00_Within rv_21.1 rv_22.1).bind fun rv_26 =>
  some rv_26) (some false)).bind fun t_5 =>
  (cond t_5 ((remontoirref00_Within rv_23.1 rv_24.1).bind fun rv_27 =>
  some rv_27) (some false)).bind fun t_6 =>
  (cond t_6 ((remontoirlaw02_works).bind fun rv_28 =>
  some rv_28) (some false)).bind fun t_7 =>
  some t_7)
  else none
  else none))
  (cond ((c.Pairs.length : Int) == 0)
  ((remontoirlaw02_works).bind fun rv_29 =>
  some rv_29)
  ((remontoirref00_Rest n.a2 (c.Pairs.length : Int)).bind fun rv_30 =>
  (idx c.Pairs rv_30).bind fun e_3 =>
  (remontoirref00_To (if wr (e_3.Read.Low - rv_2) > -200000 then wr (e_3.Read.Low - rv_2) else -200000) (if wr (e_3.Read.High + rv_2) < 200000 then wr (e_3.Read.High + rv_2) else 200000)).bind fun rv_31 =>
  if ([] : List BeatPair).length + c.Pairs.length ≤ lim then
  if (0 : Int) ≤ rv_30 ∧ rv_30 < ((([] : List BeatPair) ++ c.Pairs).length : Int) then
  (remontoirref00_Rest n.a3 (c.Rates.length : Int)).bind fun rv_32 =>
  (remontoirref00_Rest n.a4 (wr (c.Hours + 1))).bind fun rv_33 =>
  (beat_Offset c rv_32 rv_33).bind fun rv_34 =>
  (beat_Offset (BeatCellar.mk c.Hours c.Rates c.Opens ((([] : List BeatPair) ++ c.Pairs).set (Int.toNat rv_30) (BeatPair.mk e_3.Hour e_3.One e_3.Other rv_31))) rv_32 rv_33).bind fun rv_35 =>
  (beat_Apart c rv_32 0 rv_33).bind fun rv_36 =>
  (beat_Apart (BeatCellar.mk c.Hours c.Rates c.Opens ((([] : List BeatPair) ++ c.Pairs).set (Int.toNat rv_30) (BeatPair.mk e_3.Hour e_3.One e_3.Other rv_31))) rv_32 0 rv_33).bind fun rv_37 =>
  cond (rv_34.2 != 0)
  ((cond ((((rv_34.2 == 22) && (rv_36.2 == rv_34.2)) && ((rv_35.2 == 0) || (rv_35.2 == rv_34.2))) && (rv_37.2 == rv_35.2)) ((remontoirlaw02_works).bind fun rv_38 =>
  some rv_38) (some false)).bind fun t_8 =>
  some t_8)
  ((cond (((rv_35.2 == 0) && (rv_36.2 == 0)) && (rv_37.2 == 0)) ((remontoirref00_Within rv_34.1 rv_35.1).bind fun rv_39 =>
  some rv_39) (some false)).bind fun t_9 =>
  (cond t_9 ((remontoirref00_Within rv_36.1 rv_37.1).bind fun rv_40 =>
  some rv_40) (some false)).bind fun t_10 =>
  (cond t_10 ((remontoirlaw02_works).bind fun rv_41 =>
  some rv_41) (some false)).bind fun t_11 =>
  some t_11)
  else none
  else none))))
theorem remontoirlaw02_BeatWider_ok {w0 : World} {D0 : Stab} (hD : D0.on w0) (c : BeatCellar) (n : Arr5) {p : Option Addr} {c_1 : Nat} {p_1 : Option Addr} {c_2 : Nat} {p_2 : Option Addr} {c_3 : Nat} (hs : SRc C_Span D0 c.Rates p c_1) (hs_1 : SRc C_BeatOpen D0 c.Opens p_1 c_2) (hs_2 : SRc C_BeatPair D0 c.Pairs p_2 c_3) (hG : Glob D0) (out : Bool) (h : remontoirlaw02_BeatWider c n = some out) : Calls Tryd.prog 10 [.agg #[.int .i64 c.Hours, .slice p c.Rates.length c_1, .slice p_1 c.Opens.length c_2, .slice p_2 c.Pairs.length c_3], .agg #[.int .i64 n.a0, .int .i64 n.a1, .int .i64 n.a2, .int .i64 n.a3, .int .i64 n.a4]].toArray w0 (RetP D0 w0 (.bool out)) := by
 refine enter _ 240 Tryd.func10 rfl Tryd.ntmps10 rfl fun a hF => ?_
 replace hF : Frm 240 [] [(0, .agg #[.int .i64 c.Hours, .slice p c.Rates.length c_1, .slice p_1 c.Opens.length c_2, .slice p_2 c.Pairs.length c_3]), (1, .agg #[.int .i64 n.a0, .int .i64 n.a1, .int .i64 n.a2, .int .i64 n.a3, .int .i64 n.a4])] a := hF
 have hS := St.start hD
 unfold remontoirlaw02_BeatWider at h
 refine seq ?_
 refine region ?_
 refine O.box (cs := [.int .i64 c.Hours, .slice p c.Rates.length c_1, .slice p_1 c.Opens.length c_2, .slice p_2 c.Pairs.length c_3]) 1 hF rfl rfl hS rfl fun b a w hF hS => ?_
 refine O.box (cs := [.int .i64 n.a0, .int .i64 n.a1, .int .i64 n.a2, .int .i64 n.a3, .int .i64 n.a4]) 2 hF rfl rfl hS rfl fun b_1 a w hF hS => ?_
 refine step hF (Y.assign hF rfl) rfl fun a hF => ?_
 refine nil (then_n ?_)
 refine seq ?_
 refine seq ?_
 refine region ?_
 refine step hF (Y.loadNL 1 sz_26 hF rfl hS rfl rfl rfl) rfl fun a hF => ?_
 obtain ⟨rv, hx, h⟩ := bind_some h
 refine O.callP (us := [.agg #[.int .i64 c.Hours, .slice p c.Rates.length c_1, .slice p_1 c.Opens.length c_2, .slice p_2 c.Pairs.length c_3]]) ca_32 hF hS (remontoirlaw02_sound_ok hS.stab c hs hs_1 hs_2 rv hx) rfl rfl fun a w hF hS => ?_
 refine step hF (Y.not hF rfl) rfl fun a hF => ?_
 refine nil (then_n ?_)
 refine cond_b hF rfl (fun hbv => ?_) (fun hbv => ?_)
 ·replace h := cond_t h hbv
  refine seq ?_
  refine region ?_
  obtain ⟨rv_1, hx_1, h⟩ := bind_some h
  refine O.callP (us := []) ca_21 hF hS (remontoirlaw02_works_ok hS.stab hG rv_1 hx_1) rfl rfl fun a w hF hS => ?_
  refine step hF (Y.assign hF rfl) rfl fun a hF => ?_
  refine nil (then_n ?_)
  refine ret_ (then_r ?_)
  obtain rfl := some_inj h
  exact leaveP Tryd.results10 hF hS (.cons (.tmp rfl) .nil) .nil rfl
 ·replace h := cond_f h hbv
  refine skip_ (then_n ?_)
  refine seq ?_
  refine region ?_
  refine step hF (Y.loadNL 1 sz_26 hF rfl hS rfl rfl rfl) rfl fun a hF => ?_
  refine O.alloc 3 zc_26 hF hS rfl fun b_2 a w hF hS => ?_
  refine O.store (us := [.int .i64 c.Hours, .slice p c.Rates.length c_1, .slice p_1 c.Opens.length c_2, .slice p_2 c.Pairs.length c_3]) 3 sz_26 hF rfl rfl rfl rfl hS rfl rfl fun a w hF hS => ?_
  refine nil (then_n ?_)
  refine seq ?_
  refine region ?_
  refine step hF (Y.indexArr u_66 sz_3 hF rfl rfl (by decide) (by decide)) rfl fun a hF => ?_
  refine step hF (Y.load1L 2 sz_3 hF rfl hS rfl rfl) rfl fun a hF => ?_
  obtain ⟨rv_2, hx_2, h⟩ := bind_some h
  refine O.callP (us := [.int .i64 n.a1, .int .i64 20]) ca_34 hF hS (remontoirref00_Rest_ok hS.stab n.a1 20 rv_2 hx_2) rfl rfl fun a w hF hS => ?_
  refine step hF (Y.assign hF rfl) rfl fun a hF => ?_
  refine nil (then_n ?_)
  refine seq ?_
  refine seq ?_
  refine region ?_
  refine step hF (Y.indexArr u_66 sz_3 hF rfl rfl (by decide) (by decide)) rfl fun a hF => ?_
  refine step hF (Y.load1L 2 sz_3 hF rfl hS rfl rfl) rfl fun a hF => ?_
  obtain ⟨rv_3, hx_3, h⟩ := bind_some h
  refine O.callP (us := [.int .i64 n.a0, .int .i64 3]) ca_34 hF hS (remontoirref00_Rest_ok hS.stab n.a0 3 rv_3 hx_3) rfl rfl fun a w hF hS => ?_
  refine nil (then_n ?_)
  refine block ?_
  refine seq ?_
  refine region ?_
  refine step hF (Y.eql hF rfl rfl) rfl fun a hF => ?_
  refine step hF (Y.assign hF rfl) rfl fun a hF => ?_
  refine nil (then_n ?_)
  refine cond_b hF rfl (fun hbv_1 => ?_) (fun hbv_1 => ?_)
  ·replace h := cond_t h hbv_1
   refine seq ?_
   refine region ?_
   refine step hF (Y.indexArr u_66 sz_3 hF rfl rfl (by decide) (by decide)) rfl fun a hF => ?_
   refine step hF (Y.load1L 2 sz_3 hF rfl hS rfl rfl) rfl fun a hF => ?_
   refine step hF (Y.fieldAddr fo_26_1 hF rfl) rfl fun a hF => ?_
   refine step hF (Y.load1L 1 sz_22 hF rfl hS rfl rfl) rfl fun a hF => ?_
   refine step hF (Y.lenSl u_22 hF rfl) rfl fun a hF => ?_
   obtain ⟨rv_4, hx_4, h⟩ := bind_some h
   refine O.callP (us := [.int .i64 n.a2, .int .i64 (c.Rates.length : Int)]) ca_34 hF hS (remontoirref00_Rest_ok hS.stab n.a2 (c.Rates.length : Int) rv_4 hx_4) rfl rfl fun a w hF hS => ?_
   refine step hF (Y.assign hF rfl) rfl fun a hF => ?_
   refine nil (then_n ?_)
   refine seq ?_
   refine region ?_
   have hr : Reps C_Span D0 ([] : List Span) [] := Reps.nil
   refine O.buildSlice (E := 34) (C := C_Span) (xs := ([] : List Span)) (cs := []) (us := []) (parts := []) 4 hF hS rfl (by kernel_rfl) hr rfl rfl rfl fun p_3 c_4 a w hF hS => ?_
   refine step hF (Y.fieldAddr fo_26_1 hF rfl) rfl fun a hF => ?_
   refine step hF (Y.load1L 1 sz_22 hF rfl hS rfl rfl) rfl fun a hF => ?_
   obtain ⟨hg, h⟩ := ite_some h
   obtain ⟨ds, hds, hsrc⟩ := src_stab (C := C_Span) (xs := c.Rates) (hs).1 hS.stab
   refine O.append (C := C_Span) (xs := ([] : List Span)) (ys := c.Rates) 4 gr_22 hF rfl rfl hS rfl hsrc hr hds hg rfl fun p_4 c_5 a w hF hS hr_1 => ?_
   refine step hF (Y.fieldAddr fo_26_1 hF rfl) rfl fun a hF => ?_
   refine O.store (us := [.slice p_4 (([] : List Span) ++ c.Rates).length c_5]) 3 sz_22 hF rfl rfl rfl rfl hS rfl rfl fun a w hF hS => ?_
   refine nil (then_n ?_)
   obtain ⟨e, hx_5, h⟩ := bind_some h
   obtain ⟨e_1, hx_6, h⟩ := bind_some h
   obtain ⟨rv_5, hx_7, h⟩ := bind_some h
   refine drawsV 22 (.flt 0 (.flt 1 (.flt 2 (.flt 3 (.flt 4 (.flt 5 (.flt 6 (.flt 7 (.flt 8 (.flt 9 (.flt 10 (.flt 11 (.flt 12 (.flt 13 (.flt 14 (.flt 15 (.flt 16 (.flt 17 (.flt 18 (.flt 19 (.flt 20 (.alt 21 .done .stop)))))))))))))))))))))) mixed_ (by kernel_rfl) (fun w => St w0 D0 D0 [(1, .cells b [.int .i64 c.Hours, .slice p c.Rates.length c_1, .slice p_1 c.Opens.length c_2, .slice p_2 c.Pairs.length c_3] 26), (2, .cells b_1 [.int .i64 n.a0, .int .i64 n.a1, .int .i64 n.a2, .int .i64 n.a3, .int .i64 n.a4] 66), (3, .cells b_2 [.int .i64 c.Hours, .slice p_4 (([] : List Span) ++ c.Rates).length c_5, .slice p_1 c.Opens.length c_2, .slice p_2 c.Pairs.length c_3] 26), (4, .own p_4 (([] : List Span) ++ c.Rates).length c_5 ([] ++ ds) 34 2)] w) (fun a w => Frm 240 [] [(2, .pointer (some ⟨b, 0, none⟩)), (3, .pointer (some ⟨b_1, 0, none⟩)), (4, .bool false), (5, .pointer (some ⟨b_2, 0, none⟩)), (87, .slice p_4 (([] : List Span) ++ c.Rates).length c_5), (88, .int .i64 rv_4), (107, .agg #[.int .i64 rv_5.Low, .int .i64 rv_5.High])] a ∧ St w0 D0 D0 [(1, .cells b [.int .i64 c.Hours, .slice p c.Rates.length c_1, .slice p_1 c.Opens.length c_2, .slice p_2 c.Pairs.length c_3] 26), (2, .cells b_1 [.int .i64 n.a0, .int .i64 n.a1, .int .i64 n.a2, .int .i64 n.a3, .int .i64 n.a4] 66), (3, .cells b_2 [.int .i64 c.Hours, .slice p_4 (([] : List Span) ++ c.Rates).length c_5, .slice p_1 c.Opens.length c_2, .slice p_2 c.Pairs.length c_3] 26), (4, .own p_4 (([] : List Span) ++ c.Rates).length c_5 ([] ++ ds) 34 2)] w) (hS.weak (ms := [(1, .cells b [.int .i64 c.Hours, .slice p c.Rates.length c_1, .slice p_1 c.Opens.length c_2, .slice p_2 c.Pairs.length c_3] 26), (2, .cells b_1 [.int .i64 n.a0, .int .i64 n.a1, .int .i64 n.a2, .int .i64 n.a3, .int .i64 n.a4] 66), (3, .cells b_2 [.int .i64 c.Hours, .slice p_4 (([] : List Span) ++ c.Rates).length c_5, .slice p_1 c.Opens.length c_2, .slice p_2 c.Pairs.length c_3] 26), (4, .own p_4 (([] : List Span) ++ c.Rates).length c_5 ([] ++ ds) 34 2)]) ⟨rfl, rfl, rfl, rfl, trivial⟩).drew (fun _ _ _ _ h => h) ?_ ?_
   ·replace hS := hS.drew
    have hle0 := hS.le
    refine stepV (i := 0) rfl hF (fun w hS => Y.fieldAddr fo_26_1 hF rfl) rfl fun a hF => ?_
    refine stepV (i := 1) rfl hF (fun w hS => Y.load1L 3 sz_22 hF rfl hS rfl rfl) rfl fun a hF => ?_
    refine stepV (i := 2) rfl hF (fun w hS => Y.move hF rfl) rfl fun a hF => ?_
    refine stepV (i := 3) rfl hF (fun w hS => Y.fieldAddr fo_26_1 hF rfl) rfl fun a hF => ?_
    refine stepV (i := 4) rfl hF (fun w hS => Y.load1L 1 sz_22 hF rfl hS rfl rfl) rfl fun a hF => ?_
    refine stepV (i := 5) rfl hF (fun w hS => Y.move hF rfl) rfl fun a hF => ?_
    obtain ⟨b_5, o_2, hE_2, hY_2⟩ := Y.indexS (P := Tryd.prog) (C := C_Span) (xs := c.Rates) (T := 22) (x := (.tmp 90)) (y := (.tmp 91)) u_22 sz_34 hF rfl rfl (hs).1 hx_5
    obtain ⟨cc_2, hc_2, hcell_2⟩ := hE_2.open
    obtain rfl := C_Span.open hc_2
    refine stepV (i := 6) rfl hF (fun w hS => hY_2) rfl fun a hF => ?_
    refine stepV (i := 7) rfl hF (fun w hS => Y.fieldAddr fo_34_0 hF rfl) rfl fun a hF => ?_
    refine stepV (i := 8) rfl hF (fun w hS => Y.load1 sz_3 hF rfl (hcell_2 _ hS.stab 0 _ rfl)) rfl fun a hF => ?_
    refine stepV (i := 9) rfl hF (fun w hS => Y.move hF rfl) rfl fun a hF => ?_
    refine stepV (i := 10) rfl hF (fun w hS => Y.sub hF rfl rfl) rfl fun a hF => ?_
    refine stepV (i := 11) rfl hF (fun w hS => Y.max2 hF rfl rfl) rfl fun a hF => ?_
    refine stepV (i := 12) rfl hF (fun w hS => Y.fieldAddr fo_26_1 hF rfl) rfl fun a hF => ?_
    refine stepV (i := 13) rfl hF (fun w hS => Y.load1L 1 sz_22 hF rfl hS rfl rfl) rfl fun a hF => ?_
    refine stepV (i := 14) rfl hF (fun w hS => Y.move hF rfl) rfl fun a hF => ?_
    obtain ⟨b_6, o_3, hE_3, hY_3⟩ := Y.indexS (P := Tryd.prog) (C := C_Span) (xs := c.Rates) (T := 22) (x := (.tmp 99)) (y := (.tmp 100)) u_22 sz_34 hF rfl rfl (hs).1 hx_6
    obtain ⟨cc_3, hc_3, hcell_3⟩ := hE_3.open
    obtain rfl := C_Span.open hc_3
    refine stepV (i := 15) rfl hF (fun w hS => hY_3) rfl fun a hF => ?_
    refine stepV (i := 16) rfl hF (fun w hS => Y.fieldAddr fo_34_1 hF rfl) rfl fun a hF => ?_
    refine stepV (i := 17) rfl hF (fun w hS => Y.load1 sz_3 hF rfl (hcell_3 _ hS.stab 1 _ rfl)) rfl fun a hF => ?_
    refine stepV (i := 18) rfl hF (fun w hS => Y.move hF rfl) rfl fun a hF => ?_
    refine stepV (i := 19) rfl hF (fun w hS => Y.add hF rfl rfl) rfl fun a hF => ?_
    refine stepV (i := 20) rfl hF (fun w hS => Y.min2 hF rfl rfl) rfl fun a hF => ?_
    refine oneV (i := 21) rfl ?_ trivial
    refine O.callP (us := [.int .i64 (if wr (e.Low - rv_2) > -1000 then wr (e.Low - rv_2) else -1000), .int .i64 (if wr (e_1.High + rv_2) < 1000 then wr (e_1.High + rv_2) else 1000)]) ca_37 hF hS (remontoirref00_To_ok hS.stab (if wr (e.Low - rv_2) > -1000 then wr (e.Low - rv_2) else -1000) (if wr (e_1.High + rv_2) < 1000 then wr (e_1.High + rv_2) else 1000) rv_5 hx_7) rfl rfl fun a w hF hS => ?_
    refine nil (then_n ⟨hS.weak ⟨rfl, rfl, rfl, rfl, trivial⟩, ?_⟩)
    exact toTailV ⟨hF.weak ⟨rfl, rfl, rfl, rfl, rfl, rfl, rfl, trivial⟩, hS.weak ⟨rfl, rfl, rfl, rfl, trivial⟩⟩
   rintro a w ⟨hF, hS⟩
   obtain ⟨hg_1, h⟩ := ite_some h
   obtain ⟨b_7, hp⟩ := hS.ownPtr (i := 4) rfl hg_1
   refine step hF (Y.indexOwn hp u_22 sz_34 hg_1 hF rfl rfl) rfl fun a hF => ?_
   refine O.storeOwnP (C := C_Span) (v0 := rv_5) (xs := (([] : List Span) ++ c.Rates)) (us := [.int .i64 rv_5.Low, .int .i64 rv_5.High]) 4 hp sz_34 hg_1 hF rfl rfl rfl rfl hS rfl hr_1 fun cs a w hF hS hr_2 => ?_
   try rw [show (([] : List Span) ++ c.Rates).length = ((([] : List Span) ++ c.Rates).set (Int.toNat rv_4) rv_5).length from List.length_set.symm] at hF
   try rw [show (([] : List Span) ++ c.Rates).length = ((([] : List Span) ++ c.Rates).set (Int.toNat rv_4) rv_5).length from List.length_set.symm] at hS
   refine nil (blk_n (then_n ?_))
   refine seq ?_
   obtain ⟨rv_6, hx_8, h⟩ := bind_some h
   refine drawsV 11 (.flt 0 (.flt 1 (.flt 2 (.flt 3 (.flt 4 (.flt 6 (.flt 7 (.flt 8 (.flt 9 (.flt 10 (.alt 5 .done .stop))))))))))) mixed_ (by kernel_rfl) (fun w => St w0 D0 D0 [(1, .cells b [.int .i64 c.Hours, .slice p c.Rates.length c_1, .slice p_1 c.Opens.length c_2, .slice p_2 c.Pairs.length c_3] 26), (2, .cells b_1 [.int .i64 n.a0, .int .i64 n.a1, .int .i64 n.a2, .int .i64 n.a3, .int .i64 n.a4] 66), (3, .cells b_2 [.int .i64 c.Hours, .slice p_4 ((([] : List Span) ++ c.Rates).set (Int.toNat rv_4) rv_5).length c_5, .slice p_1 c.Opens.length c_2, .slice p_2 c.Pairs.length c_3] 26), (4, .own p_4 ((([] : List Span) ++ c.Rates).set (Int.toNat rv_4) rv_5).length c_5 cs 34 2)] w) (fun a w => Frm 240 [] [(2, .pointer (some ⟨b, 0, none⟩)), (4, .bool false), (5, .pointer (some ⟨b_2, 0, none⟩)), (156, .int .i64 rv_6), (158, .int .i64 n.a4), (161, .int .i64 (wr (c.Hours + 1)))] a ∧ St w0 D0 D0 [(1, .cells b [.int .i64 c.Hours, .slice p c.Rates.length c_1, .slice p_1 c.Opens.length c_2, .slice p_2 c.Pairs.length c_3] 26), (2, .cells b_1 [.int .i64 n.a0, .int .i64 n.a1, .int .i64 n.a2, .int .i64 n.a3, .int .i64 n.a4] 66), (3, .cells b_2 [.int .i64 c.Hours, .slice p_4 ((([] : List Span) ++ c.Rates).set (Int.toNat rv_4) rv_5).length c_5, .slice p_1 c.Opens.length c_2, .slice p_2 c.Pairs.length c_3] 26), (4, .own p_4 ((([] : List Span) ++ c.Rates).set (Int.toNat rv_4) rv_5).length c_5 cs 34 2)] w) (hS.weak (ms := [(1, .cells b [.int .i64 c.Hours, .slice p c.Rates.length c_1, .slice p_1 c.Opens.length c_2, .slice p_2 c.Pairs.length c_3] 26), (2, .cells b_1 [.int .i64 n.a0, .int .i64 n.a1, .int .i64 n.a2, .int .i64 n.a3, .int .i64 n.a4] 66), (3, .cells b_2 [.int .i64 c.Hours, .slice p_4 ((([] : List Span) ++ c.Rates).set (Int.toNat rv_4) rv_5).length c_5, .slice p_1 c.Opens.length c_2, .slice p_2 c.Pairs.length c_3] 26), (4, .own p_4 ((([] : List Span) ++ c.Rates).set (Int.toNat rv_4) rv_5).length c_5 cs 34 2)]) ⟨rfl, rfl, rfl, rfl, trivial⟩).drew (fun _ _ _ _ h => h) ?_ ?_
   ·replace hS := hS.drew
    have hle0 := hS.le
    refine stepV (i := 0) rfl hF (fun w hS => Y.indexArr u_66 sz_3 hF rfl rfl (by decide) (by decide)) rfl fun a hF => ?_
    refine stepV (i := 1) rfl hF (fun w hS => Y.load1L 2 sz_3 hF rfl hS rfl rfl) rfl fun a hF => ?_
    refine stepV (i := 2) rfl hF (fun w hS => Y.fieldAddr fo_26_1 hF rfl) rfl fun a hF => ?_
    refine stepV (i := 3) rfl hF (fun w hS => Y.load1L 1 sz_22 hF rfl hS rfl rfl) rfl fun a hF => ?_
    refine stepV (i := 4) rfl hF (fun w hS => Y.lenSl u_22 hF rfl) rfl fun a hF => ?_
    refine stepV (i := 6) rfl hF (fun w hS => Y.indexArr u_66 sz_3 hF rfl rfl (by decide) (by decide)) rfl fun a hF => ?_
    refine stepV (i := 7) rfl hF (fun w hS => Y.load1L 2 sz_3 hF rfl hS rfl rfl) rfl fun a hF => ?_
    refine stepV (i := 8) rfl hF (fun w hS => Y.fieldAddr fo_26_0 hF rfl) rfl fun a hF => ?_
    refine stepV (i := 9) rfl hF (fun w hS => Y.load1L 1 sz_3 hF rfl hS rfl rfl) rfl fun a hF => ?_
    refine stepV (i := 10) rfl hF (fun w hS => Y.add hF rfl rfl) rfl fun a hF => ?_
    refine oneV (i := 5) rfl ?_ trivial
    refine O.callP (us := [.int .i64 n.a3, .int .i64 (c.Rates.length : Int)]) ca_34 hF hS (remontoirref00_Rest_ok hS.stab n.a3 (c.Rates.length : Int) rv_6 hx_8) rfl rfl fun a w hF hS => ?_
    refine nil (then_n ⟨hS.weak ⟨rfl, rfl, rfl, rfl, trivial⟩, ?_⟩)
    exact toTailV ⟨hF.weak ⟨rfl, rfl, rfl, rfl, rfl, rfl, trivial⟩, hS.weak ⟨rfl, rfl, rfl, rfl, trivial⟩⟩
   rintro a w ⟨hF, hS⟩
   obtain ⟨rv_7, hx_9, h⟩ := bind_some h
   refine O.callP (us := [.int .i64 n.a4, .int .i64 (wr (c.Hours + 1))]) ca_34 hF hS (remontoirref00_Rest_ok hS.stab n.a4 (wr (c.Hours + 1)) rv_7 hx_9) rfl rfl fun a w hF hS => ?_
   refine step hF (Y.assign hF rfl) rfl fun a hF => ?_
   refine step hF (Y.assign hF rfl) rfl fun a hF => ?_
   refine nil (then_n ?_)
   refine seq ?_
   refine region ?_
   refine step hF (Y.loadNL 1 sz_26 hF rfl hS rfl rfl rfl) rfl fun a hF => ?_
   refine step hF (Y.move hF rfl) rfl fun a hF => ?_
   refine step hF (Y.move hF rfl) rfl fun a hF => ?_
   obtain ⟨rv_8, hx_10, h⟩ := bind_some h
   refine O.callP (us := [.agg #[.int .i64 c.Hours, .slice p c.Rates.length c_1, .slice p_1 c.Opens.length c_2, .slice p_2 c.Pairs.length c_3], .int .i64 rv_6, .int .i64 rv_7]) ca_19 hF hS (beat_Offset_ok hS.stab c rv_6 rv_7 hs hs_1 hs_2 hG rv_8 hx_10) rfl rfl fun a w hF hS => ?_
   refine step hF (Y.move hF rfl) rfl fun a hF => ?_
   refine step hF (Y.extract hF rfl rfl) rfl fun a hF => ?_
   refine step hF (Y.extract hF rfl rfl) rfl fun a hF => ?_
   refine O.alloc 5 zc_34 hF hS rfl fun b_8 a w hF hS => ?_
   refine O.store (us := [.int .i64 rv_8.1.Low, .int .i64 rv_8.1.High]) 5 sz_34 hF rfl rfl rfl rfl hS rfl rfl fun a w hF hS => ?_
   refine step hF (Y.assign hF rfl) rfl fun a hF => ?_
   refine nil (then_n ?_)
   refine seq ?_
   refine region ?_
   refine step hF (Y.loadNL 3 sz_26 hF rfl hS rfl rfl rfl) rfl fun a hF => ?_
   refine step hF (Y.move hF rfl) rfl fun a hF => ?_
   refine step hF (Y.move hF rfl) rfl fun a hF => ?_
   obtain ⟨Dv, hlev, hs_3, hS⟩ := hS.freezeC (i := 4) (xs := ((([] : List Span) ++ c.Rates).set (Int.toNat rv_4) rv_5)) rfl hr_2
   replace hs := hs.mono hlev
   replace hs_1 := hs_1.mono hlev
   replace hs_2 := hs_2.mono hlev
   replace hG := hG.mono hlev
   replace hr := hr.mono hlev
   replace hr_1 := hr_1.mono hlev
   replace hr_2 := hr_2.mono hlev
   obtain ⟨rv_9, hx_11, h⟩ := bind_some h
   refine O.callP (us := [.agg #[.int .i64 c.Hours, .slice p_4 ((([] : List Span) ++ c.Rates).set (Int.toNat rv_4) rv_5).length c_5, .slice p_1 c.Opens.length c_2, .slice p_2 c.Pairs.length c_3], .int .i64 rv_6, .int .i64 rv_7]) ca_19 hF hS (beat_Offset_ok hS.stab (BeatCellar.mk c.Hours ((([] : List Span) ++ c.Rates).set (Int.toNat rv_4) rv_5) c.Opens c.Pairs) rv_6 rv_7 hs_3 hs_1 hs_2 hG rv_9 hx_11) rfl rfl fun a w hF hS => ?_
   refine step hF (Y.move hF rfl) rfl fun a hF => ?_
   refine step hF (Y.extract hF rfl rfl) rfl fun a hF => ?_
   refine step hF (Y.extract hF rfl rfl) rfl fun a hF => ?_
   refine O.alloc 6 zc_34 hF hS rfl fun b_9 a w hF hS => ?_
   refine O.store (us := [.int .i64 rv_9.1.Low, .int .i64 rv_9.1.High]) 6 sz_34 hF rfl rfl rfl rfl hS rfl rfl fun a w hF hS => ?_
   refine step hF (Y.assign hF rfl) rfl fun a hF => ?_
   refine nil (then_n ?_)
   refine seq ?_
   refine region ?_
   refine step hF (Y.loadNL 1 sz_26 hF rfl hS rfl rfl rfl) rfl fun a hF => ?_
   refine step hF (Y.move hF rfl) rfl fun a hF => ?_
   refine step hF (Y.move hF rfl) rfl fun a hF => ?_
   obtain ⟨rv_10, hx_12, h⟩ := bind_some h
   refine O.callP (us := [.agg #[.int .i64 c.Hours, .slice p c.Rates.length c_1, .slice p_1 c.Opens.length c_2, .slice p_2 c.Pairs.length c_3], .int .i64 rv_6, .int .i64 0, .int .i64 rv_7]) ca_22 hF hS (beat_Apart_ok hS.stab c rv_6 0 rv_7 hs hs_1 hs_2 hG rv_10 hx_12) rfl rfl fun a w hF hS => ?_
   refine step hF (Y.move hF rfl) rfl fun a hF => ?_
   refine step hF (Y.extract hF rfl rfl) rfl fun a hF => ?_
   refine step hF (Y.extract hF rfl rfl) rfl fun a hF => ?_
   refine O.alloc 7 zc_34 hF hS rfl fun b_10 a w hF hS => ?_
   refine O.store (us := [.int .i64 rv_10.1.Low, .int .i64 rv_10.1.High]) 7 sz_34 hF rfl rfl rfl rfl hS rfl rfl fun a w hF hS => ?_
   refine step hF (Y.assign hF rfl) rfl fun a hF => ?_
   refine nil (then_n ?_)
   refine seq ?_
   refine region ?_
   refine step hF (Y.loadNL 3 sz_26 hF rfl hS rfl rfl rfl) rfl fun a hF => ?_
   refine step hF (Y.move hF rfl) rfl fun a hF => ?_
   refine step hF (Y.move hF rfl) rfl fun a hF => ?_
   obtain ⟨rv_11, hx_13, h⟩ := bind_some h
   refine O.callP (us := [.agg #[.int .i64 c.Hours, .slice p_4 ((([] : List Span) ++ c.Rates).set (Int.toNat rv_4) rv_5).length c_5, .slice p_1 c.Opens.length c_2, .slice p_2 c.Pairs.length c_3], .int .i64 rv_6, .int .i64 0, .int .i64 rv_7]) ca_22 hF hS (beat_Apart_ok hS.stab (BeatCellar.mk c.Hours ((([] : List Span) ++ c.Rates).set (Int.toNat rv_4) rv_5) c.Opens c.Pairs) rv_6 0 rv_7 hs_3 hs_1 hs_2 hG rv_11 hx_13) rfl rfl fun a w hF hS => ?_
   refine step hF (Y.move hF rfl) rfl fun a hF => ?_
   refine step hF (Y.extract hF rfl rfl) rfl fun a hF => ?_
   refine step hF (Y.extract hF rfl rfl) rfl fun a hF => ?_
   refine O.alloc 8 zc_34 hF hS rfl fun b_11 a w hF hS => ?_
   refine O.store (us := [.int .i64 rv_11.1.Low, .int .i64 rv_11.1.High]) 8 sz_34 hF rfl rfl rfl rfl hS rfl rfl fun a w hF hS => ?_
   refine step hF (Y.assign hF rfl) rfl fun a hF => ?_
   refine nil (then_n ?_)
   refine seq ?_
   refine seq ?_
   refine region ?_
   refine step hF (Y.move hF rfl) rfl fun a hF => ?_
   refine step hF (Y.neq hF rfl rfl) rfl fun a hF => ?_
   refine nil (then_n ?_)
   refine cond_b hF rfl (fun hbv_2 => ?_) (fun hbv_2 => ?_)
   ·replace h := cond_t h hbv_2
    refine seq ?_
    refine region ?_
    refine step hF (Y.move hF rfl) rfl fun a hF => ?_
    refine step hF (Y.eql hF rfl rfl) rfl fun a hF => ?_
    refine step hF (Y.move hF rfl) rfl fun a hF => ?_
    refine join (N := 240) (rs := []) (w0 := w0) (D0 := D0) 4 (us := [(4, .bool false), (14, .pointer (some ⟨b_8, 0, none⟩)), (15, .int .i64 rv_8.2), (16, .pointer (some ⟨b_9, 0, none⟩)), (17, .int .i64 rv_9.2), (18, .pointer (some ⟨b_10, 0, none⟩)), (19, .int .i64 rv_10.2), (20, .pointer (some ⟨b_11, 0, none⟩)), (21, .int .i64 rv_11.2), (199, .bool ((rv_8.2 == 22) && (rv_10.2 == rv_8.2)))]) (ms := [(1, .cells b [.int .i64 c.Hours, .slice p c.Rates.length c_1, .slice p_1 c.Opens.length c_2, .slice p_2 c.Pairs.length c_3] 26), (2, .cells b_1 [.int .i64 n.a0, .int .i64 n.a1, .int .i64 n.a2, .int .i64 n.a3, .int .i64 n.a4] 66), (3, .cells b_2 [.int .i64 c.Hours, .slice p_4 ((([] : List Span) ++ c.Rates).set (Int.toNat rv_4) rv_5).length c_5, .slice p_1 c.Opens.length c_2, .slice p_2 c.Pairs.length c_3] 26), (5, .cells b_8 [.int .i64 rv_8.1.Low, .int .i64 rv_8.1.High] 34), (6, .cells b_9 [.int .i64 rv_9.1.Low, .int .i64 rv_9.1.High] 34), (7, .cells b_10 [.int .i64 rv_10.1.Low, .int .i64 rv_10.1.High] 34), (8, .cells b_11 [.int .i64 rv_11.1.Low, .int .i64 rv_11.1.High] 34)]) (D' := Dv) ?_ ?_
    ·rcases bcases (rv_8.2 == 22) with hbv_3 | hbv_3
     ·-- true
      refine guard_on hF rfl rfl hbv_3 ?_
      refine step hF (Y.move hF rfl) rfl fun a hF => ?_
      refine guard_on hF rfl rfl hbv_3 ?_
      refine step hF (Y.move hF rfl) rfl fun a hF => ?_
      refine guard_on hF rfl rfl hbv_3 ?_
      refine step hF (Y.eql hF rfl rfl) rfl fun a hF => ?_
      refine step hF (Y.pick_t hF rfl hbv_3 rfl) rfl fun a hF => ?_
      exact nil (then_n ⟨hF.weak ⟨rfl, rfl, rfl, rfl, rfl, rfl, rfl, rfl, rfl, (by rw [hbv_3]; rfl), trivial⟩, hS.weak ⟨rfl, rfl, rfl, rfl, rfl, rfl, rfl, trivial⟩⟩)
     ·-- false
      refine guard_off hF rfl rfl hbv_3 rfl fun a hF => ?_
      refine guard_off hF rfl rfl hbv_3 rfl fun a hF => ?_
      refine guard_off hF rfl rfl hbv_3 rfl fun a hF => ?_
      refine step hF (Y.pick_f hF rfl hbv_3 rfl) rfl fun a hF => ?_
      exact nil (then_n ⟨hF.weak ⟨rfl, rfl, rfl, rfl, rfl, rfl, rfl, rfl, rfl, (by rw [hbv_3]; rfl), trivial⟩, hS.weak ⟨rfl, rfl, rfl, rfl, rfl, rfl, rfl, trivial⟩⟩)
    intro a w hF hS
    refine step hF (Y.move hF rfl) rfl fun a hF => ?_
    refine join (N := 240) (rs := []) (w0 := w0) (D0 := D0) 8 (us := [(4, .bool false), (14, .pointer (some ⟨b_8, 0, none⟩)), (16, .pointer (some ⟨b_9, 0, none⟩)), (17, .int .i64 rv_9.2), (18, .pointer (some ⟨b_10, 0, none⟩)), (19, .int .i64 rv_10.2), (20, .pointer (some ⟨b_11, 0, none⟩)), (21, .int .i64 rv_11.2), (208, .bool (((rv_8.2 == 22) && (rv_10.2 == rv_8.2)) && ((rv_9.2 == 0) || (rv_9.2 == rv_8.2))))]) (ms := [(1, .cells b [.int .i64 c.Hours, .slice p c.Rates.length c_1, .slice p_1 c.Opens.length c_2, .slice p_2 c.Pairs.length c_3] 26), (2, .cells b_1 [.int .i64 n.a0, .int .i64 n.a1, .int .i64 n.a2, .int .i64 n.a3, .int .i64 n.a4] 66), (3, .cells b_2 [.int .i64 c.Hours, .slice p_4 ((([] : List Span) ++ c.Rates).set (Int.toNat rv_4) rv_5).length c_5, .slice p_1 c.Opens.length c_2, .slice p_2 c.Pairs.length c_3] 26), (5, .cells b_8 [.int .i64 rv_8.1.Low, .int .i64 rv_8.1.High] 34), (6, .cells b_9 [.int .i64 rv_9.1.Low, .int .i64 rv_9.1.High] 34), (7, .cells b_10 [.int .i64 rv_10.1.Low, .int .i64 rv_10.1.High] 34), (8, .cells b_11 [.int .i64 rv_11.1.Low, .int .i64 rv_11.1.High] 34)]) (D' := Dv) ?_ ?_
    ·rcases bcases ((rv_8.2 == 22) && (rv_10.2 == rv_8.2)) with hbv_4 | hbv_4
     ·-- true
      refine guard_on hF rfl rfl hbv_4 ?_
      refine step hF (Y.move hF rfl) rfl fun a hF => ?_
      refine guard_on hF rfl rfl hbv_4 ?_
      refine step hF (Y.eql hF rfl rfl) rfl fun a hF => ?_
      refine guard_on hF rfl rfl hbv_4 ?_
      refine step hF (Y.move hF rfl) rfl fun a hF => ?_
      refine join (N := 240) (rs := []) (w0 := w0) (D0 := D0) 4 (us := [(4, .bool false), (14, .pointer (some ⟨b_8, 0, none⟩)), (16, .pointer (some ⟨b_9, 0, none⟩)), (17, .int .i64 rv_9.2), (18, .pointer (some ⟨b_10, 0, none⟩)), (19, .int .i64 rv_10.2), (20, .pointer (some ⟨b_11, 0, none⟩)), (21, .int .i64 rv_11.2), (200, .bool ((rv_8.2 == 22) && (rv_10.2 == rv_8.2))), (207, .bool ((rv_9.2 == 0) || (rv_9.2 == rv_8.2)))]) (ms := [(1, .cells b [.int .i64 c.Hours, .slice p c.Rates.length c_1, .slice p_1 c.Opens.length c_2, .slice p_2 c.Pairs.length c_3] 26), (2, .cells b_1 [.int .i64 n.a0, .int .i64 n.a1, .int .i64 n.a2, .int .i64 n.a3, .int .i64 n.a4] 66), (3, .cells b_2 [.int .i64 c.Hours, .slice p_4 ((([] : List Span) ++ c.Rates).set (Int.toNat rv_4) rv_5).length c_5, .slice p_1 c.Opens.length c_2, .slice p_2 c.Pairs.length c_3] 26), (5, .cells b_8 [.int .i64 rv_8.1.Low, .int .i64 rv_8.1.High] 34), (6, .cells b_9 [.int .i64 rv_9.1.Low, .int .i64 rv_9.1.High] 34), (7, .cells b_10 [.int .i64 rv_10.1.Low, .int .i64 rv_10.1.High] 34), (8, .cells b_11 [.int .i64 rv_11.1.Low, .int .i64 rv_11.1.High] 34)]) (D' := Dv) ?_ ?_
      ·rcases bcases (rv_9.2 == 0) with hbv_5 | hbv_5
       ·-- true
        refine guard_off hF rfl rfl hbv_5 rfl fun a hF => ?_
        refine guard_off hF rfl rfl hbv_5 rfl fun a hF => ?_
        refine guard_off hF rfl rfl hbv_5 rfl fun a hF => ?_
        refine guard_on hF rfl rfl hbv_4 ?_
        refine step hF (Y.pick_t hF rfl hbv_5 rfl) rfl fun a hF => ?_
        exact nil (then_n ⟨hF.weak ⟨rfl, rfl, rfl, rfl, rfl, rfl, rfl, rfl, rfl, (by rw [hbv_5]; rfl), trivial⟩, hS.weak ⟨rfl, rfl, rfl, rfl, rfl, rfl, rfl, trivial⟩⟩)
       ·-- false
        refine guard_on hF rfl rfl hbv_5 ?_
        refine step hF (Y.move hF rfl) rfl fun a hF => ?_
        refine guard_on hF rfl rfl hbv_5 ?_
        refine step hF (Y.move hF rfl) rfl fun a hF => ?_
        refine guard_on hF rfl rfl hbv_5 ?_
        refine step hF (Y.eql hF rfl rfl) rfl fun a hF => ?_
        refine guard_on hF rfl rfl hbv_4 ?_
        refine step hF (Y.pick_f hF rfl hbv_5 rfl) rfl fun a hF => ?_
        exact nil (then_n ⟨hF.weak ⟨rfl, rfl, rfl, rfl, rfl, rfl, rfl, rfl, rfl, (by rw [hbv_5]; rfl), trivial⟩, hS.weak ⟨rfl, rfl, rfl, rfl, rfl, rfl, rfl, trivial⟩⟩)
      intro a w hF hS
      refine step hF (Y.pick_t hF rfl hbv_4 rfl) rfl fun a hF => ?_
      exact nil (then_n ⟨hF.weak ⟨rfl, rfl, rfl, rfl, rfl, rfl, rfl, rfl, (by rw [hbv_4]; rfl), trivial⟩, hS.weak ⟨rfl, rfl, rfl, rfl, rfl, rfl, rfl, trivial⟩⟩)
     ·-- false
      refine guard_off hF rfl rfl hbv_4 rfl fun a hF => ?_
      refine guard_off hF rfl rfl hbv_4 rfl fun a hF => ?_
      refine guard_off hF rfl rfl hbv_4 rfl fun a hF => ?_
      refine guard_offu hF rfl rfl rfl fun a hF => ?_
      refine guard_offu hF rfl rfl rfl fun a hF => ?_
      refine guard_offu hF rfl rfl rfl fun a hF => ?_
      refine guard_off hF rfl rfl hbv_4 rfl fun a hF => ?_
      refine step hF (Y.pick_f hF rfl hbv_4 rfl) rfl fun a hF => ?_
      exact nil (then_n ⟨hF.weak ⟨rfl, rfl, rfl, rfl, rfl, rfl, rfl, rfl, (by rw [hbv_4]; rfl), trivial⟩, hS.weak ⟨rfl, rfl, rfl, rfl, rfl, rfl, rfl, trivial⟩⟩)
    intro a w hF hS
    refine step hF (Y.move hF rfl) rfl fun a hF => ?_
    refine join (N := 240) (rs := []) (w0 := w0) (D0 := D0) 4 (us := [(4, .bool false), (14, .pointer (some ⟨b_8, 0, none⟩)), (16, .pointer (some ⟨b_9, 0, none⟩)), (17, .int .i64 rv_9.2), (18, .pointer (some ⟨b_10, 0, none⟩)), (19, .int .i64 rv_10.2), (20, .pointer (some ⟨b_11, 0, none⟩)), (21, .int .i64 rv_11.2), (213, .bool ((((rv_8.2 == 22) && (rv_10.2 == rv_8.2)) && ((rv_9.2 == 0) || (rv_9.2 == rv_8.2))) && (rv_11.2 == rv_9.2)))]) (ms := [(1, .cells b [.int .i64 c.Hours, .slice p c.Rates.length c_1, .slice p_1 c.Opens.length c_2, .slice p_2 c.Pairs.length c_3] 26), (2, .cells b_1 [.int .i64 n.a0, .int .i64 n.a1, .int .i64 n.a2, .int .i64 n.a3, .int .i64 n.a4] 66), (3, .cells b_2 [.int .i64 c.Hours, .slice p_4 ((([] : List Span) ++ c.Rates).set (Int.toNat rv_4) rv_5).length c_5, .slice p_1 c.Opens.length c_2, .slice p_2 c.Pairs.length c_3] 26), (5, .cells b_8 [.int .i64 rv_8.1.Low, .int .i64 rv_8.1.High] 34), (6, .cells b_9 [.int .i64 rv_9.1.Low, .int .i64 rv_9.1.High] 34), (7, .cells b_10 [.int .i64 rv_10.1.Low, .int .i64 rv_10.1.High] 34), (8, .cells b_11 [.int .i64 rv_11.1.Low, .int .i64 rv_11.1.High] 34)]) (D' := Dv) ?_ ?_
    ·rcases bcases (((rv_8.2 == 22) && (rv_10.2 == rv_8.2)) && ((rv_9.2 == 0) || (rv_9.2 == rv_8.2))) with hbv_6 | hbv_6
     ·-- true
      refine guard_on hF rfl rfl hbv_6 ?_
      refine step hF (Y.move hF rfl) rfl fun a hF => ?_
      refine guard_on hF rfl rfl hbv_6 ?_
      refine step hF (Y.move hF rfl) rfl fun a hF => ?_
      refine guard_on hF rfl rfl hbv_6 ?_
      refine step hF (Y.eql hF rfl rfl) rfl fun a hF => ?_
      refine step hF (Y.pick_t hF rfl hbv_6 rfl) rfl fun a hF => ?_
      exact nil (then_n ⟨hF.weak ⟨rfl, rfl, rfl, rfl, rfl, rfl, rfl, rfl, (by rw [hbv_6]; rfl), trivial⟩, hS.weak ⟨rfl, rfl, rfl, rfl, rfl, rfl, rfl, trivial⟩⟩)
     ·-- false
      refine guard_off hF rfl rfl hbv_6 rfl fun a hF => ?_
      refine guard_off hF rfl rfl hbv_6 rfl fun a hF => ?_
      refine guard_off hF rfl rfl hbv_6 rfl fun a hF => ?_
      refine step hF (Y.pick_f hF rfl hbv_6 rfl) rfl fun a hF => ?_
      exact nil (then_n ⟨hF.weak ⟨rfl, rfl, rfl, rfl, rfl, rfl, rfl, rfl, (by rw [hbv_6]; rfl), trivial⟩, hS.weak ⟨rfl, rfl, rfl, rfl, rfl, rfl, rfl, trivial⟩⟩)
    intro a w hF hS
    refine step hF (Y.move hF rfl) rfl fun a hF => ?_
    obtain ⟨t, ht, h⟩ := bind_some h
    refine join (N := 240) (rs := []) (w0 := w0) (D0 := D0) 2 (us := [(4, .bool false), (14, .pointer (some ⟨b_8, 0, none⟩)), (16, .pointer (some ⟨b_9, 0, none⟩)), (17, .int .i64 rv_9.2), (18, .pointer (some ⟨b_10, 0, none⟩)), (19, .int .i64 rv_10.2), (20, .pointer (some ⟨b_11, 0, none⟩)), (21, .int .i64 rv_11.2), (216, .bool t)]) (ms := [(1, .cells b [.int .i64 c.Hours, .slice p c.Rates.length c_1, .slice p_1 c.Opens.length c_2, .slice p_2 c.Pairs.length c_3] 26), (2, .cells b_1 [.int .i64 n.a0, .int .i64 n.a1, .int .i64 n.a2, .int .i64 n.a3, .int .i64 n.a4] 66), (3, .cells b_2 [.int .i64 c.Hours, .slice p_4 ((([] : List Span) ++ c.Rates).set (Int.toNat rv_4) rv_5).length c_5, .slice p_1 c.Opens.length c_2, .slice p_2 c.Pairs.length c_3] 26), (5, .cells b_8 [.int .i64 rv_8.1.Low, .int .i64 rv_8.1.High] 34), (6, .cells b_9 [.int .i64 rv_9.1.Low, .int .i64 rv_9.1.High] 34), (7, .cells b_10 [.int .i64 rv_10.1.Low, .int .i64 rv_10.1.High] 34), (8, .cells b_11 [.int .i64 rv_11.1.Low, .int .i64 rv_11.1.High] 34)]) (D' := Dv) ?_ ?_
    ·rcases bcases ((((rv_8.2 == 22) && (rv_10.2 == rv_8.2)) && ((rv_9.2 == 0) || (rv_9.2 == rv_8.2))) && (rv_11.2 == rv_9.2)) with hbv_7 | hbv_7
     ·-- true
      replace h := cond_t ht hbv_7
      refine guard_on hF rfl rfl hbv_7 ?_
      obtain ⟨rv_12, hx_14, h⟩ := bind_some h
      refine O.callP (us := []) ca_21 hF hS (remontoirlaw02_works_ok hS.stab hG rv_12 hx_14) rfl rfl fun a w hF hS => ?_
      refine step hF (Y.pick_t hF rfl hbv_7 rfl) rfl fun a hF => ?_
      obtain rfl := some_inj h
      exact nil (then_n ⟨hF.weak ⟨rfl, rfl, rfl, rfl, rfl, rfl, rfl, rfl, rfl, trivial⟩, hS.weak ⟨rfl, rfl, rfl, rfl, rfl, rfl, rfl, trivial⟩⟩)
     ·-- false
      replace h := cond_f ht hbv_7
      refine guard_off hF rfl rfl hbv_7 rfl fun a hF => ?_
      refine step hF (Y.pick_f hF rfl hbv_7 rfl) rfl fun a hF => ?_
      obtain rfl := some_inj h
      exact nil (then_n ⟨hF.weak ⟨rfl, rfl, rfl, rfl, rfl, rfl, rfl, rfl, rfl, trivial⟩, hS.weak ⟨rfl, rfl, rfl, rfl, rfl, rfl, rfl, trivial⟩⟩)
    intro a w hF hS
    refine step hF (Y.assign hF rfl) rfl fun a hF => ?_
    refine nil (then_n ?_)
    refine ret_ (then_r ?_)
    obtain rfl := some_inj h
    exact leaveP Tryd.results10 hF hS (.cons (.tmp rfl) .nil) .nil rfl
   ·replace h := cond_f h hbv_2
    refine skip_ (then_n ?_)
    refine seq ?_
    refine region ?_
    refine step hF (Y.move hF rfl) rfl fun a hF => ?_
    refine step hF (Y.eql hF rfl rfl) rfl fun a hF => ?_
    refine step hF (Y.move hF rfl) rfl fun a hF => ?_
    refine join (N := 240) (rs := []) (w0 := w0) (D0 := D0) 3 (us := [(4, .bool false), (14, .pointer (some ⟨b_8, 0, none⟩)), (16, .pointer (some ⟨b_9, 0, none⟩)), (18, .pointer (some ⟨b_10, 0, none⟩)), (20, .pointer (some ⟨b_11, 0, none⟩)), (21, .int .i64 rv_11.2), (222, .bool ((rv_9.2 == 0) && (rv_10.2 == 0)))]) (ms := [(1, .cells b [.int .i64 c.Hours, .slice p c.Rates.length c_1, .slice p_1 c.Opens.length c_2, .slice p_2 c.Pairs.length c_3] 26), (2, .cells b_1 [.int .i64 n.a0, .int .i64 n.a1, .int .i64 n.a2, .int .i64 n.a3, .int .i64 n.a4] 66), (3, .cells b_2 [.int .i64 c.Hours, .slice p_4 ((([] : List Span) ++ c.Rates).set (Int.toNat rv_4) rv_5).length c_5, .slice p_1 c.Opens.length c_2, .slice p_2 c.Pairs.length c_3] 26), (5, .cells b_8 [.int .i64 rv_8.1.Low, .int .i64 rv_8.1.High] 34), (6, .cells b_9 [.int .i64 rv_9.1.Low, .int .i64 rv_9.1.High] 34), (7, .cells b_10 [.int .i64 rv_10.1.Low, .int .i64 rv_10.1.High] 34), (8, .cells b_11 [.int .i64 rv_11.1.Low, .int .i64 rv_11.1.High] 34)]) (D' := Dv) ?_ ?_
    ·rcases bcases (rv_9.2 == 0) with hbv_8 | hbv_8
     ·-- true
      refine guard_on hF rfl rfl hbv_8 ?_
      refine step hF (Y.move hF rfl) rfl fun a hF => ?_
      refine guard_on hF rfl rfl hbv_8 ?_
      refine step hF (Y.eql hF rfl rfl) rfl fun a hF => ?_
      refine step hF (Y.pick_t hF rfl hbv_8 rfl) rfl fun a hF => ?_
      exact nil (then_n ⟨hF.weak ⟨rfl, rfl, rfl, rfl, rfl, rfl, (by rw [hbv_8]; rfl), trivial⟩, hS.weak ⟨rfl, rfl, rfl, rfl, rfl, rfl, rfl, trivial⟩⟩)
     ·-- false
      refine guard_off hF rfl rfl hbv_8 rfl fun a hF => ?_
      refine guard_off hF rfl rfl hbv_8 rfl fun a hF => ?_
      refine step hF (Y.pick_f hF rfl hbv_8 rfl) rfl fun a hF => ?_
      exact nil (then_n ⟨hF.weak ⟨rfl, rfl, rfl, rfl, rfl, rfl, (by rw [hbv_8]; rfl), trivial⟩, hS.weak ⟨rfl, rfl, rfl, rfl, rfl, rfl, rfl, trivial⟩⟩)
    intro a w hF hS
    refine step hF (Y.move hF rfl) rfl fun a hF => ?_
    refine join (N := 240) (rs := []) (w0 := w0) (D0 := D0) 3 (us := [(4, .bool false), (14, .pointer (some ⟨b_8, 0, none⟩)), (16, .pointer (some ⟨b_9, 0, none⟩)), (18, .pointer (some ⟨b_10, 0, none⟩)), (20, .pointer (some ⟨b_11, 0, none⟩)), (226, .bool (((rv_9.2 == 0) && (rv_10.2 == 0)) && (rv_11.2 == 0)))]) (ms := [(1, .cells b [.int .i64 c.Hours, .slice p c.Rates.length c_1, .slice p_1 c.Opens.length c_2, .slice p_2 c.Pairs.length c_3] 26), (2, .cells b_1 [.int .i64 n.a0, .int .i64 n.a1, .int .i64 n.a2, .int .i64 n.a3, .int .i64 n.a4] 66), (3, .cells b_2 [.int .i64 c.Hours, .slice p_4 ((([] : List Span) ++ c.Rates).set (Int.toNat rv_4) rv_5).length c_5, .slice p_1 c.Opens.length c_2, .slice p_2 c.Pairs.length c_3] 26), (5, .cells b_8 [.int .i64 rv_8.1.Low, .int .i64 rv_8.1.High] 34), (6, .cells b_9 [.int .i64 rv_9.1.Low, .int .i64 rv_9.1.High] 34), (7, .cells b_10 [.int .i64 rv_10.1.Low, .int .i64 rv_10.1.High] 34), (8, .cells b_11 [.int .i64 rv_11.1.Low, .int .i64 rv_11.1.High] 34)]) (D' := Dv) ?_ ?_
    ·rcases bcases ((rv_9.2 == 0) && (rv_10.2 == 0)) with hbv_9 | hbv_9
     ·-- true
      refine guard_on hF rfl rfl hbv_9 ?_
      refine step hF (Y.move hF rfl) rfl fun a hF => ?_
      refine guard_on hF rfl rfl hbv_9 ?_
      refine step hF (Y.eql hF rfl rfl) rfl fun a hF => ?_
      refine step hF (Y.pick_t hF rfl hbv_9 rfl) rfl fun a hF => ?_
      exact nil (then_n ⟨hF.weak ⟨rfl, rfl, rfl, rfl, rfl, (by rw [hbv_9]; rfl), trivial⟩, hS.weak ⟨rfl, rfl, rfl, rfl, rfl, rfl, rfl, trivial⟩⟩)
     ·-- false
      refine guard_off hF rfl rfl hbv_9 rfl fun a hF => ?_
      refine guard_off hF rfl rfl hbv_9 rfl fun a hF => ?_
      refine step hF (Y.pick_f hF rfl hbv_9 rfl) rfl fun a hF => ?_
      exact nil (then_n ⟨hF.weak ⟨rfl, rfl, rfl, rfl, rfl, (by rw [hbv_9]; rfl), trivial⟩, hS.weak ⟨rfl, rfl, rfl, rfl, rfl, rfl, rfl, trivial⟩⟩)
    intro a w hF hS
    refine step hF (Y.move hF rfl) rfl fun a hF => ?_
    obtain ⟨t_1, ht_1, h⟩ := bind_some h
    refine join (N := 240) (rs := []) (w0 := w0) (D0 := D0) 4 (us := [(4, .bool false), (18, .pointer (some ⟨b_10, 0, none⟩)), (20, .pointer (some ⟨b_11, 0, none⟩)), (231, .bool t_1)]) (ms := [(1, .cells b [.int .i64 c.Hours, .slice p c.Rates.length c_1, .slice p_1 c.Opens.length c_2, .slice p_2 c.Pairs.length c_3] 26), (2, .cells b_1 [.int .i64 n.a0, .int .i64 n.a1, .int .i64 n.a2, .int .i64 n.a3, .int .i64 n.a4] 66), (3, .cells b_2 [.int .i64 c.Hours, .slice p_4 ((([] : List Span) ++ c.Rates).set (Int.toNat rv_4) rv_5).length c_5, .slice p_1 c.Opens.length c_2, .slice p_2 c.Pairs.length c_3] 26), (5, .cells b_8 [.int .i64 rv_8.1.Low, .int .i64 rv_8.1.High] 34), (6, .cells b_9 [.int .i64 rv_9.1.Low, .int .i64 rv_9.1.High] 34), (7, .cells b_10 [.int .i64 rv_10.1.Low, .int .i64 rv_10.1.High] 34), (8, .cells b_11 [.int .i64 rv_11.1.Low, .int .i64 rv_11.1.High] 34)]) (D' := Dv) ?_ ?_
    ·rcases bcases (((rv_9.2 == 0) && (rv_10.2 == 0)) && (rv_11.2 == 0)) with hbv_10 | hbv_10
     ·-- true
      replace h := cond_t ht_1 hbv_10
      refine guard_on hF rfl rfl hbv_10 ?_
      refine step hF (Y.loadNL 5 sz_34 hF rfl hS rfl rfl rfl) rfl fun a hF => ?_
      refine guard_on hF rfl rfl hbv_10 ?_
      refine step hF (Y.loadNL 6 sz_34 hF rfl hS rfl rfl rfl) rfl fun a hF => ?_
      refine guard_on hF rfl rfl hbv_10 ?_
      obtain ⟨rv_13, hx_15, h⟩ := bind_some h
      refine O.callP (us := [.agg #[.int .i64 rv_8.1.Low, .int .i64 rv_8.1.High], .agg #[.int .i64 rv_9.1.Low, .int .i64 rv_9.1.High]]) ca_36 hF hS (remontoirref00_Within_ok hS.stab rv_8.1 rv_9.1 rv_13 hx_15) rfl rfl fun a w hF hS => ?_
      refine step hF (Y.pick_t hF rfl hbv_10 rfl) rfl fun a hF => ?_
      obtain rfl := some_inj h
      exact nil (then_n ⟨hF.weak ⟨rfl, rfl, rfl, rfl, trivial⟩, hS.weak ⟨rfl, rfl, rfl, rfl, rfl, rfl, rfl, trivial⟩⟩)
     ·-- false
      replace h := cond_f ht_1 hbv_10
      refine guard_off hF rfl rfl hbv_10 rfl fun a hF => ?_
      refine guard_off hF rfl rfl hbv_10 rfl fun a hF => ?_
      refine guard_off hF rfl rfl hbv_10 rfl fun a hF => ?_
      refine step hF (Y.pick_f hF rfl hbv_10 rfl) rfl fun a hF => ?_
      obtain rfl := some_inj h
      exact nil (then_n ⟨hF.weak ⟨rfl, rfl, rfl, rfl, trivial⟩, hS.weak ⟨rfl, rfl, rfl, rfl, rfl, rfl, rfl, trivial⟩⟩)
    intro a w hF hS
    refine step hF (Y.move hF rfl) rfl fun a hF => ?_
    obtain ⟨t_2, ht_2, h⟩ := bind_some h
    refine join (N := 240) (rs := []) (w0 := w0) (D0 := D0) 4 (us := [(4, .bool false), (236, .bool t_2)]) (ms := [(1, .cells b [.int .i64 c.Hours, .slice p c.Rates.length c_1, .slice p_1 c.Opens.length c_2, .slice p_2 c.Pairs.length c_3] 26), (2, .cells b_1 [.int .i64 n.a0, .int .i64 n.a1, .int .i64 n.a2, .int .i64 n.a3, .int .i64 n.a4] 66), (3, .cells b_2 [.int .i64 c.Hours, .slice p_4 ((([] : List Span) ++ c.Rates).set (Int.toNat rv_4) rv_5).length c_5, .slice p_1 c.Opens.length c_2, .slice p_2 c.Pairs.length c_3] 26), (5, .cells b_8 [.int .i64 rv_8.1.Low, .int .i64 rv_8.1.High] 34), (6, .cells b_9 [.int .i64 rv_9.1.Low, .int .i64 rv_9.1.High] 34), (7, .cells b_10 [.int .i64 rv_10.1.Low, .int .i64 rv_10.1.High] 34), (8, .cells b_11 [.int .i64 rv_11.1.Low, .int .i64 rv_11.1.High] 34)]) (D' := Dv) ?_ ?_
    ·rcases bcases t_1 with hbv_11 | hbv_11
     ·-- true
      replace h := cond_t ht_2 hbv_11
      refine guard_on hF rfl rfl hbv_11 ?_
      refine step hF (Y.loadNL 7 sz_34 hF rfl hS rfl rfl rfl) rfl fun a hF => ?_
      refine guard_on hF rfl rfl hbv_11 ?_
      refine step hF (Y.loadNL 8 sz_34 hF rfl hS rfl rfl rfl) rfl fun a hF => ?_
      refine guard_on hF rfl rfl hbv_11 ?_
      obtain ⟨rv_14, hx_16, h⟩ := bind_some h
      refine O.callP (us := [.agg #[.int .i64 rv_10.1.Low, .int .i64 rv_10.1.High], .agg #[.int .i64 rv_11.1.Low, .int .i64 rv_11.1.High]]) ca_36 hF hS (remontoirref00_Within_ok hS.stab rv_10.1 rv_11.1 rv_14 hx_16) rfl rfl fun a w hF hS => ?_
      refine step hF (Y.pick_t hF rfl hbv_11 rfl) rfl fun a hF => ?_
      obtain rfl := some_inj h
      exact nil (then_n ⟨hF.weak ⟨rfl, rfl, trivial⟩, hS.weak ⟨rfl, rfl, rfl, rfl, rfl, rfl, rfl, trivial⟩⟩)
     ·-- false
      replace h := cond_f ht_2 hbv_11
      refine guard_off hF rfl rfl hbv_11 rfl fun a hF => ?_
      refine guard_off hF rfl rfl hbv_11 rfl fun a hF => ?_
      refine guard_off hF rfl rfl hbv_11 rfl fun a hF => ?_
      refine step hF (Y.pick_f hF rfl hbv_11 rfl) rfl fun a hF => ?_
      obtain rfl := some_inj h
      exact nil (then_n ⟨hF.weak ⟨rfl, rfl, trivial⟩, hS.weak ⟨rfl, rfl, rfl, rfl, rfl, rfl, rfl, trivial⟩⟩)
    intro a w hF hS
    refine step hF (Y.move hF rfl) rfl fun a hF => ?_
    obtain ⟨t_3, ht_3, h⟩ := bind_some h
    refine join (N := 240) (rs := []) (w0 := w0) (D0 := D0) 2 (us := [(4, .bool false), (239, .bool t_3)]) (ms := [(1, .cells b [.int .i64 c.Hours, .slice p c.Rates.length c_1, .slice p_1 c.Opens.length c_2, .slice p_2 c.Pairs.length c_3] 26), (2, .cells b_1 [.int .i64 n.a0, .int .i64 n.a1, .int .i64 n.a2, .int .i64 n.a3, .int .i64 n.a4] 66), (3, .cells b_2 [.int .i64 c.Hours, .slice p_4 ((([] : List Span) ++ c.Rates).set (Int.toNat rv_4) rv_5).length c_5, .slice p_1 c.Opens.length c_2, .slice p_2 c.Pairs.length c_3] 26), (5, .cells b_8 [.int .i64 rv_8.1.Low, .int .i64 rv_8.1.High] 34), (6, .cells b_9 [.int .i64 rv_9.1.Low, .int .i64 rv_9.1.High] 34), (7, .cells b_10 [.int .i64 rv_10.1.Low, .int .i64 rv_10.1.High] 34), (8, .cells b_11 [.int .i64 rv_11.1.Low, .int .i64 rv_11.1.High] 34)]) (D' := Dv) ?_ ?_
    ·rcases bcases t_2 with hbv_12 | hbv_12
     ·-- true
      replace h := cond_t ht_3 hbv_12
      refine guard_on hF rfl rfl hbv_12 ?_
      obtain ⟨rv_15, hx_17, h⟩ := bind_some h
      refine O.callP (us := []) ca_21 hF hS (remontoirlaw02_works_ok hS.stab hG rv_15 hx_17) rfl rfl fun a w hF hS => ?_
      refine step hF (Y.pick_t hF rfl hbv_12 rfl) rfl fun a hF => ?_
      obtain rfl := some_inj h
      exact nil (then_n ⟨hF.weak ⟨rfl, rfl, trivial⟩, hS.weak ⟨rfl, rfl, rfl, rfl, rfl, rfl, rfl, trivial⟩⟩)
     ·-- false
      replace h := cond_f ht_3 hbv_12
      refine guard_off hF rfl rfl hbv_12 rfl fun a hF => ?_
      refine step hF (Y.pick_f hF rfl hbv_12 rfl) rfl fun a hF => ?_
      obtain rfl := some_inj h
      exact nil (then_n ⟨hF.weak ⟨rfl, rfl, trivial⟩, hS.weak ⟨rfl, rfl, rfl, rfl, rfl, rfl, rfl, trivial⟩⟩)
    intro a w hF hS
    refine step hF (Y.assign hF rfl) rfl fun a hF => ?_
    refine nil (then_n ?_)
    refine ret_ ?_
    obtain rfl := some_inj h
    exact leaveP Tryd.results10 hF hS (.cons (.tmp rfl) .nil) .nil rfl
  ·replace h := cond_f h hbv_1
   refine seq ?_
   refine region ?_
   refine step hF (Y.eql hF rfl rfl) rfl fun a hF => ?_
   refine step hF (Y.assign hF rfl) rfl fun a hF => ?_
   refine nil (then_n ?_)
   refine cond_b hF rfl (fun hbv_13 => ?_) (fun hbv_13 => ?_)
   ·replace h := cond_t h hbv_13
    refine seq ?_
    refine seq ?_
    refine region ?_
    refine step hF (Y.fieldAddr fo_26_2 hF rfl) rfl fun a hF => ?_
    refine step hF (Y.load1L 1 sz_23 hF rfl hS rfl rfl) rfl fun a hF => ?_
    refine step hF (Y.lenSl u_23 hF rfl) rfl fun a hF => ?_
    refine step hF (Y.eql hF rfl rfl) rfl fun a hF => ?_
    refine nil (then_n ?_)
    refine cond_b hF rfl (fun hbv_14 => ?_) (fun hbv_14 => ?_)
    ·replace h := cond_t h hbv_14
     refine seq ?_
     refine region ?_
     obtain ⟨rv_16, hx_18, h⟩ := bind_some h
     refine O.callP (us := []) ca_21 hF hS (remontoirlaw02_works_ok hS.stab hG rv_16 hx_18) rfl rfl fun a w hF hS => ?_
     refine step hF (Y.assign hF rfl) rfl fun a hF => ?_
     refine nil (then_n ?_)
     refine ret_ (then_r (blk_r (then_r ?_)))
     obtain rfl := some_inj h
     exact leaveP Tryd.results10 hF hS (.cons (.tmp rfl) .nil) .nil rfl
    ·replace h := cond_f h hbv_14
     refine skip_ (then_n ?_)
     refine seq ?_
     refine region ?_
     refine step hF (Y.indexArr u_66 sz_3 hF rfl rfl (by decide) (by decide)) rfl fun a hF => ?_
     refine step hF (Y.load1L 2 sz_3 hF rfl hS rfl rfl) rfl fun a hF => ?_
     refine step hF (Y.fieldAddr fo_26_2 hF rfl) rfl fun a hF => ?_
     refine step hF (Y.load1L 1 sz_23 hF rfl hS rfl rfl) rfl fun a hF => ?_
     refine step hF (Y.lenSl u_23 hF rfl) rfl fun a hF => ?_
     obtain ⟨rv_17, hx_19, h⟩ := bind_some h
     refine O.callP (us := [.int .i64 n.a2, .int .i64 (c.Opens.length : Int)]) ca_34 hF hS (remontoirref00_Rest_ok hS.stab n.a2 (c.Opens.length : Int) rv_17 hx_19) rfl rfl fun a w hF hS => ?_
     refine step hF (Y.assign hF rfl) rfl fun a hF => ?_
     refine nil (then_n ?_)
     refine seq ?_
     refine region ?_
     refine step hF (Y.fieldAddr fo_26_2 hF rfl) rfl fun a hF => ?_
     refine step hF (Y.load1L 1 sz_23 hF rfl hS rfl rfl) rfl fun a hF => ?_
     refine step hF (Y.move hF rfl) rfl fun a hF => ?_
     obtain ⟨e_2, hx_20, h⟩ := bind_some h
     obtain ⟨b_12, o_4, hE_4, hY_4⟩ := Y.indexS (P := Tryd.prog) (C := C_BeatOpen) (xs := c.Opens) (T := 23) (x := (.tmp 123)) (y := (.tmp 124)) u_23 sz_63 hF rfl rfl (hs_1).1 hx_20
     obtain ⟨cc_4, hc_4, hcell_4⟩ := hE_4.open
     obtain rfl := C_BeatOpen.open hc_4
     refine step hF (hY_4) rfl fun a hF => ?_
     refine step hF (Y.loadNE (o := o_4) (k := 0) sz_63 hF rfl (hcell_4 _ hS.stab) rfl rfl) rfl fun a hF => ?_
     refine O.alloc 9 zc_63 hF hS rfl fun b_13 a w hF hS => ?_
     refine O.store (us := [.int .i64 e_2.Clock, .int .i64 e_2.Hour, .int .i64 e_2.Step.Low, .int .i64 e_2.Step.High]) 9 sz_63 hF rfl rfl rfl rfl hS rfl rfl fun a w hF hS => ?_
     refine nil (then_n ?_)
     refine seq ?_
     refine region ?_
     refine step hF (Y.fieldAddr fo_63_2 hF rfl) rfl fun a hF => ?_
     refine step hF (Y.fieldAddr fo_34_0 hF rfl) rfl fun a hF => ?_
     refine step hF (Y.load1L 9 sz_3 hF rfl hS rfl rfl) rfl fun a hF => ?_
     refine step hF (Y.move hF rfl) rfl fun a hF => ?_
     refine step hF (Y.sub hF rfl rfl) rfl fun a hF => ?_
     refine step hF (Y.max2 hF rfl rfl) rfl fun a hF => ?_
     refine step hF (Y.fieldAddr fo_63_2 hF rfl) rfl fun a hF => ?_
     refine step hF (Y.fieldAddr fo_34_1 hF rfl) rfl fun a hF => ?_
     refine step hF (Y.load1L 9 sz_3 hF rfl hS rfl rfl) rfl fun a hF => ?_
     refine step hF (Y.move hF rfl) rfl fun a hF => ?_
     refine step hF (Y.add hF rfl rfl) rfl fun a hF => ?_
     refine step hF (Y.min2 hF rfl rfl) rfl fun a hF => ?_
     obtain ⟨rv_18, hx_21, h⟩ := bind_some h
     refine O.callP (us := [.int .i64 (if wr (e_2.Step.Low - rv_2) > -100000 then wr (e_2.Step.Low - rv_2) else -100000), .int .i64 (if wr (e_2.Step.High + rv_2) < 100000 then wr (e_2.Step.High + rv_2) else 100000)]) ca_37 hF hS (remontoirref00_To_ok hS.stab (if wr (e_2.Step.Low - rv_2) > -100000 then wr (e_2.Step.Low - rv_2) else -100000) (if wr (e_2.Step.High + rv_2) < 100000 then wr (e_2.Step.High + rv_2) else 100000) rv_18 hx_21) rfl rfl fun a w hF hS => ?_
     refine step hF (Y.fieldAddr fo_63_2 hF rfl) rfl fun a hF => ?_
     refine O.store (us := [.int .i64 rv_18.Low, .int .i64 rv_18.High]) 9 sz_34 hF rfl rfl rfl rfl hS rfl rfl fun a w hF hS => ?_
     refine nil (then_n ?_)
     refine seq ?_
     refine region ?_
     have hr_3 : Reps C_BeatOpen D0 ([] : List BeatOpen) [] := Reps.nil
     refine O.buildSlice (E := 63) (C := C_BeatOpen) (xs := ([] : List BeatOpen)) (cs := []) (us := []) (parts := []) 10 hF hS rfl (by kernel_rfl) hr_3 rfl rfl rfl fun p_5 c_6 a w hF hS => ?_
     refine step hF (Y.fieldAddr fo_26_2 hF rfl) rfl fun a hF => ?_
     refine step hF (Y.load1L 1 sz_23 hF rfl hS rfl rfl) rfl fun a hF => ?_
     obtain ⟨hg_2, h⟩ := ite_some h
     obtain ⟨ds_1, hds_1, hsrc_1⟩ := src_stab (C := C_BeatOpen) (xs := c.Opens) (hs_1).1 hS.stab
     refine O.append (C := C_BeatOpen) (xs := ([] : List BeatOpen)) (ys := c.Opens) 10 gr_23 hF rfl rfl hS rfl hsrc_1 hr_3 hds_1 hg_2 rfl fun p_6 c_7 a w hF hS hr_4 => ?_
     refine step hF (Y.fieldAddr fo_26_2 hF rfl) rfl fun a hF => ?_
     refine O.store (us := [.slice p_6 (([] : List BeatOpen) ++ c.Opens).length c_7]) 3 sz_23 hF rfl rfl rfl rfl hS rfl rfl fun a w hF hS => ?_
     refine nil (then_n ?_)
     refine region ?_
     refine step hF (Y.fieldAddr fo_26_2 hF rfl) rfl fun a hF => ?_
     refine step hF (Y.load1L 3 sz_23 hF rfl hS rfl rfl) rfl fun a hF => ?_
     refine step hF (Y.move hF rfl) rfl fun a hF => ?_
     refine step hF (Y.loadNL 9 sz_63 hF rfl hS rfl rfl rfl) rfl fun a hF => ?_
     obtain ⟨hg_3, h⟩ := ite_some h
     obtain ⟨b_14, hp_1⟩ := hS.ownPtr (i := 10) rfl hg_3
     refine step hF (Y.indexOwn hp_1 u_23 sz_63 hg_3 hF rfl rfl) rfl fun a hF => ?_
     refine O.storeOwnP (C := C_BeatOpen) (v0 := (BeatOpen.mk e_2.Clock e_2.Hour rv_18)) (xs := (([] : List BeatOpen) ++ c.Opens)) (us := [.int .i64 e_2.Clock, .int .i64 e_2.Hour, .int .i64 rv_18.Low, .int .i64 rv_18.High]) 10 hp_1 sz_63 hg_3 hF rfl rfl rfl rfl hS rfl hr_4 fun cs_1 a w hF hS hr_5 => ?_
     try rw [show (([] : List BeatOpen) ++ c.Opens).length = ((([] : List BeatOpen) ++ c.Opens).set (Int.toNat rv_17) (BeatOpen.mk e_2.Clock e_2.Hour rv_18)).length from List.length_set.symm] at hF
     try rw [show (([] : List BeatOpen) ++ c.Opens).length = ((([] : List BeatOpen) ++ c.Opens).set (Int.toNat rv_17) (BeatOpen.mk e_2.Clock e_2.Hour rv_18)).length from List.length_set.symm] at hS
     refine nil (blk_n (then_n ?_))
     refine seq ?_
     obtain ⟨rv_19, hx_22, h⟩ := bind_some h
     refine drawsV 11 (.flt 0 (.flt 1 (.flt 2 (.flt 3 (.flt 4 (.flt 6 (.flt 7 (.flt 8 (.flt 9 (.flt 10 (.alt 5 .done .stop))))))))))) mixed_ (by kernel_rfl) (fun w => St w0 D0 D0 [(1, .cells b [.int .i64 c.Hours, .slice p c.Rates.length c_1, .slice p_1 c.Opens.length c_2, .slice p_2 c.Pairs.length c_3] 26), (2, .cells b_1 [.int .i64 n.a0, .int .i64 n.a1, .int .i64 n.a2, .int .i64 n.a3, .int .i64 n.a4] 66), (3, .cells b_2 [.int .i64 c.Hours, .slice p c.Rates.length c_1, .slice p_6 ((([] : List BeatOpen) ++ c.Opens).set (Int.toNat rv_17) (BeatOpen.mk e_2.Clock e_2.Hour rv_18)).length c_7, .slice p_2 c.Pairs.length c_3] 26), (9, .cells b_13 [.int .i64 e_2.Clock, .int .i64 e_2.Hour, .int .i64 rv_18.Low, .int .i64 rv_18.High] 63), (10, .own p_6 ((([] : List BeatOpen) ++ c.Opens).set (Int.toNat rv_17) (BeatOpen.mk e_2.Clock e_2.Hour rv_18)).length c_7 cs_1 63 4)] w) (fun a w => Frm 240 [] [(2, .pointer (some ⟨b, 0, none⟩)), (4, .bool false), (5, .pointer (some ⟨b_2, 0, none⟩)), (156, .int .i64 rv_19), (158, .int .i64 n.a4), (161, .int .i64 (wr (c.Hours + 1)))] a ∧ St w0 D0 D0 [(1, .cells b [.int .i64 c.Hours, .slice p c.Rates.length c_1, .slice p_1 c.Opens.length c_2, .slice p_2 c.Pairs.length c_3] 26), (2, .cells b_1 [.int .i64 n.a0, .int .i64 n.a1, .int .i64 n.a2, .int .i64 n.a3, .int .i64 n.a4] 66), (3, .cells b_2 [.int .i64 c.Hours, .slice p c.Rates.length c_1, .slice p_6 ((([] : List BeatOpen) ++ c.Opens).set (Int.toNat rv_17) (BeatOpen.mk e_2.Clock e_2.Hour rv_18)).length c_7, .slice p_2 c.Pairs.length c_3] 26), (9, .cells b_13 [.int .i64 e_2.Clock, .int .i64 e_2.Hour, .int .i64 rv_18.Low, .int .i64 rv_18.High] 63), (10, .own p_6 ((([] : List BeatOpen) ++ c.Opens).set (Int.toNat rv_17) (BeatOpen.mk e_2.Clock e_2.Hour rv_18)).length c_7 cs_1 63 4)] w) (hS.weak (ms := [(1, .cells b [.int .i64 c.Hours, .slice p c.Rates.length c_1, .slice p_1 c.Opens.length c_2, .slice p_2 c.Pairs.length c_3] 26), (2, .cells b_1 [.int .i64 n.a0, .int .i64 n.a1, .int .i64 n.a2, .int .i64 n.a3, .int .i64 n.a4] 66), (3, .cells b_2 [.int .i64 c.Hours, .slice p c.Rates.length c_1, .slice p_6 ((([] : List BeatOpen) ++ c.Opens).set (Int.toNat rv_17) (BeatOpen.mk e_2.Clock e_2.Hour rv_18)).length c_7, .slice p_2 c.Pairs.length c_3] 26), (9, .cells b_13 [.int .i64 e_2.Clock, .int .i64 e_2.Hour, .int .i64 rv_18.Low, .int .i64 rv_18.High] 63), (10, .own p_6 ((([] : List BeatOpen) ++ c.Opens).set (Int.toNat rv_17) (BeatOpen.mk e_2.Clock e_2.Hour rv_18)).length c_7 cs_1 63 4)]) ⟨rfl, rfl, rfl, rfl, rfl, trivial⟩).drew (fun _ _ _ _ h => h) ?_ ?_
     ·replace hS := hS.drew
      have hle0 := hS.le
      refine stepV (i := 0) rfl hF (fun w hS => Y.indexArr u_66 sz_3 hF rfl rfl (by decide) (by decide)) rfl fun a hF => ?_
      refine stepV (i := 1) rfl hF (fun w hS => Y.load1L 2 sz_3 hF rfl hS rfl rfl) rfl fun a hF => ?_
      refine stepV (i := 2) rfl hF (fun w hS => Y.fieldAddr fo_26_1 hF rfl) rfl fun a hF => ?_
      refine stepV (i := 3) rfl hF (fun w hS => Y.load1L 1 sz_22 hF rfl hS rfl rfl) rfl fun a hF => ?_
      refine stepV (i := 4) rfl hF (fun w hS => Y.lenSl u_22 hF rfl) rfl fun a hF => ?_
      refine stepV (i := 6) rfl hF (fun w hS => Y.indexArr u_66 sz_3 hF rfl rfl (by decide) (by decide)) rfl fun a hF => ?_
      refine stepV (i := 7) rfl hF (fun w hS => Y.load1L 2 sz_3 hF rfl hS rfl rfl) rfl fun a hF => ?_
      refine stepV (i := 8) rfl hF (fun w hS => Y.fieldAddr fo_26_0 hF rfl) rfl fun a hF => ?_
      refine stepV (i := 9) rfl hF (fun w hS => Y.load1L 1 sz_3 hF rfl hS rfl rfl) rfl fun a hF => ?_
      refine stepV (i := 10) rfl hF (fun w hS => Y.add hF rfl rfl) rfl fun a hF => ?_
      refine oneV (i := 5) rfl ?_ trivial
      refine O.callP (us := [.int .i64 n.a3, .int .i64 (c.Rates.length : Int)]) ca_34 hF hS (remontoirref00_Rest_ok hS.stab n.a3 (c.Rates.length : Int) rv_19 hx_22) rfl rfl fun a w hF hS => ?_
      refine nil (then_n ⟨hS.weak ⟨rfl, rfl, rfl, rfl, rfl, trivial⟩, ?_⟩)
      exact toTailV ⟨hF.weak ⟨rfl, rfl, rfl, rfl, rfl, rfl, trivial⟩, hS.weak ⟨rfl, rfl, rfl, rfl, rfl, trivial⟩⟩
     rintro a w ⟨hF, hS⟩
     obtain ⟨rv_20, hx_23, h⟩ := bind_some h
     refine O.callP (us := [.int .i64 n.a4, .int .i64 (wr (c.Hours + 1))]) ca_34 hF hS (remontoirref00_Rest_ok hS.stab n.a4 (wr (c.Hours + 1)) rv_20 hx_23) rfl rfl fun a w hF hS => ?_
     refine step hF (Y.assign hF rfl) rfl fun a hF => ?_
     refine step hF (Y.assign hF rfl) rfl fun a hF => ?_
     refine nil (then_n ?_)
     refine seq ?_
     refine region ?_
     refine step hF (Y.loadNL 1 sz_26 hF rfl hS rfl rfl rfl) rfl fun a hF => ?_
     refine step hF (Y.move hF rfl) rfl fun a hF => ?_
     refine step hF (Y.move hF rfl) rfl fun a hF => ?_
     obtain ⟨rv_21, hx_24, h⟩ := bind_some h
     refine O.callP (us := [.agg #[.int .i64 c.Hours, .slice p c.Rates.length c_1, .slice p_1 c.Opens.length c_2, .slice p_2 c.Pairs.length c_3], .int .i64 rv_19, .int .i64 rv_20]) ca_19 hF hS (beat_Offset_ok hS.stab c rv_19 rv_20 hs hs_1 hs_2 hG rv_21 hx_24) rfl rfl fun a w hF hS => ?_
     refine step hF (Y.move hF rfl) rfl fun a hF => ?_
     refine step hF (Y.extract hF rfl rfl) rfl fun a hF => ?_
     refine step hF (Y.extract hF rfl rfl) rfl fun a hF => ?_
     refine O.alloc 11 zc_34 hF hS rfl fun b_15 a w hF hS => ?_
     refine O.store (us := [.int .i64 rv_21.1.Low, .int .i64 rv_21.1.High]) 11 sz_34 hF rfl rfl rfl rfl hS rfl rfl fun a w hF hS => ?_
     refine step hF (Y.assign hF rfl) rfl fun a hF => ?_
     refine nil (then_n ?_)
     refine seq ?_
     refine region ?_
     refine step hF (Y.loadNL 3 sz_26 hF rfl hS rfl rfl rfl) rfl fun a hF => ?_
     refine step hF (Y.move hF rfl) rfl fun a hF => ?_
     refine step hF (Y.move hF rfl) rfl fun a hF => ?_
     obtain ⟨Dv_1, hlev_1, hs_4, hS⟩ := hS.freezeC (i := 10) (xs := ((([] : List BeatOpen) ++ c.Opens).set (Int.toNat rv_17) (BeatOpen.mk e_2.Clock e_2.Hour rv_18))) rfl hr_5
     replace hs := hs.mono hlev_1
     replace hs_1 := hs_1.mono hlev_1
     replace hs_2 := hs_2.mono hlev_1
     replace hG := hG.mono hlev_1
     replace hcell_4 := fun w hw => hcell_4 w (Stab.on.le hw hlev_1)
     replace hr_3 := hr_3.mono hlev_1
     replace hr_4 := hr_4.mono hlev_1
     replace hr_5 := hr_5.mono hlev_1
     obtain ⟨rv_22, hx_25, h⟩ := bind_some h
     refine O.callP (us := [.agg #[.int .i64 c.Hours, .slice p c.Rates.length c_1, .slice p_6 ((([] : List BeatOpen) ++ c.Opens).set (Int.toNat rv_17) (BeatOpen.mk e_2.Clock e_2.Hour rv_18)).length c_7, .slice p_2 c.Pairs.length c_3], .int .i64 rv_19, .int .i64 rv_20]) ca_19 hF hS (beat_Offset_ok hS.stab (BeatCellar.mk c.Hours c.Rates ((([] : List BeatOpen) ++ c.Opens).set (Int.toNat rv_17) (BeatOpen.mk e_2.Clock e_2.Hour rv_18)) c.Pairs) rv_19 rv_20 hs hs_4 hs_2 hG rv_22 hx_25) rfl rfl fun a w hF hS => ?_
     refine step hF (Y.move hF rfl) rfl fun a hF => ?_
     refine step hF (Y.extract hF rfl rfl) rfl fun a hF => ?_
     refine step hF (Y.extract hF rfl rfl) rfl fun a hF => ?_
     refine O.alloc 12 zc_34 hF hS rfl fun b_16 a w hF hS => ?_
     refine O.store (us := [.int .i64 rv_22.1.Low, .int .i64 rv_22.1.High]) 12 sz_34 hF rfl rfl rfl rfl hS rfl rfl fun a w hF hS => ?_
     refine step hF (Y.assign hF rfl) rfl fun a hF => ?_
     refine nil (then_n ?_)
     refine seq ?_
     refine region ?_
     refine step hF (Y.loadNL 1 sz_26 hF rfl hS rfl rfl rfl) rfl fun a hF => ?_
     refine step hF (Y.move hF rfl) rfl fun a hF => ?_
     refine step hF (Y.move hF rfl) rfl fun a hF => ?_
     obtain ⟨rv_23, hx_26, h⟩ := bind_some h
     refine O.callP (us := [.agg #[.int .i64 c.Hours, .slice p c.Rates.length c_1, .slice p_1 c.Opens.length c_2, .slice p_2 c.Pairs.length c_3], .int .i64 rv_19, .int .i64 0, .int .i64 rv_20]) ca_22 hF hS (beat_Apart_ok hS.stab c rv_19 0 rv_20 hs hs_1 hs_2 hG rv_23 hx_26) rfl rfl fun a w hF hS => ?_
     refine step hF (Y.move hF rfl) rfl fun a hF => ?_
     refine step hF (Y.extract hF rfl rfl) rfl fun a hF => ?_
     refine step hF (Y.extract hF rfl rfl) rfl fun a hF => ?_
     refine O.alloc 13 zc_34 hF hS rfl fun b_17 a w hF hS => ?_
     refine O.store (us := [.int .i64 rv_23.1.Low, .int .i64 rv_23.1.High]) 13 sz_34 hF rfl rfl rfl rfl hS rfl rfl fun a w hF hS => ?_
     refine step hF (Y.assign hF rfl) rfl fun a hF => ?_
     refine nil (then_n ?_)
     refine seq ?_
     refine region ?_
     refine step hF (Y.loadNL 3 sz_26 hF rfl hS rfl rfl rfl) rfl fun a hF => ?_
     refine step hF (Y.move hF rfl) rfl fun a hF => ?_
     refine step hF (Y.move hF rfl) rfl fun a hF => ?_
     obtain ⟨rv_24, hx_27, h⟩ := bind_some h
     refine O.callP (us := [.agg #[.int .i64 c.Hours, .slice p c.Rates.length c_1, .slice p_6 ((([] : List BeatOpen) ++ c.Opens).set (Int.toNat rv_17) (BeatOpen.mk e_2.Clock e_2.Hour rv_18)).length c_7, .slice p_2 c.Pairs.length c_3], .int .i64 rv_19, .int .i64 0, .int .i64 rv_20]) ca_22 hF hS (beat_Apart_ok hS.stab (BeatCellar.mk c.Hours c.Rates ((([] : List BeatOpen) ++ c.Opens).set (Int.toNat rv_17) (BeatOpen.mk e_2.Clock e_2.Hour rv_18)) c.Pairs) rv_19 0 rv_20 hs hs_4 hs_2 hG rv_24 hx_27) rfl rfl fun a w hF hS => ?_
     refine step hF (Y.move hF rfl) rfl fun a hF => ?_
     refine step hF (Y.extract hF rfl rfl) rfl fun a hF => ?_
     refine step hF (Y.extract hF rfl rfl) rfl fun a hF => ?_
     refine O.alloc 14 zc_34 hF hS rfl fun b_18 a w hF hS => ?_
     refine O.store (us := [.int .i64 rv_24.1.Low, .int .i64 rv_24.1.High]) 14 sz_34 hF rfl rfl rfl rfl hS rfl rfl fun a w hF hS => ?_
     refine step hF (Y.assign hF rfl) rfl fun a hF => ?_
     refine nil (then_n ?_)
     refine seq ?_
     refine seq ?_
     refine region ?_
     refine step hF (Y.move hF rfl) rfl fun a hF => ?_
     refine step hF (Y.neq hF rfl rfl) rfl fun a hF => ?_
     refine nil (then_n ?_)
     refine cond_b hF rfl (fun hbv_15 => ?_) (fun hbv_15 => ?_)
     ·replace h := cond_t h hbv_15
      refine seq ?_
      refine region ?_
      refine step hF (Y.move hF rfl) rfl fun a hF => ?_
      refine step hF (Y.eql hF rfl rfl) rfl fun a hF => ?_
      refine step hF (Y.move hF rfl) rfl fun a hF => ?_
      refine join (N := 240) (rs := []) (w0 := w0) (D0 := D0) 4 (us := [(4, .bool false), (14, .pointer (some ⟨b_15, 0, none⟩)), (15, .int .i64 rv_21.2), (16, .pointer (some ⟨b_16, 0, none⟩)), (17, .int .i64 rv_22.2), (18, .pointer (some ⟨b_17, 0, none⟩)), (19, .int .i64 rv_23.2), (20, .pointer (some ⟨b_18, 0, none⟩)), (21, .int .i64 rv_24.2), (199, .bool ((rv_21.2 == 22) && (rv_23.2 == rv_21.2)))]) (ms := [(1, .cells b [.int .i64 c.Hours, .slice p c.Rates.length c_1, .slice p_1 c.Opens.length c_2, .slice p_2 c.Pairs.length c_3] 26), (2, .cells b_1 [.int .i64 n.a0, .int .i64 n.a1, .int .i64 n.a2, .int .i64 n.a3, .int .i64 n.a4] 66), (3, .cells b_2 [.int .i64 c.Hours, .slice p c.Rates.length c_1, .slice p_6 ((([] : List BeatOpen) ++ c.Opens).set (Int.toNat rv_17) (BeatOpen.mk e_2.Clock e_2.Hour rv_18)).length c_7, .slice p_2 c.Pairs.length c_3] 26), (9, .cells b_13 [.int .i64 e_2.Clock, .int .i64 e_2.Hour, .int .i64 rv_18.Low, .int .i64 rv_18.High] 63), (11, .cells b_15 [.int .i64 rv_21.1.Low, .int .i64 rv_21.1.High] 34), (12, .cells b_16 [.int .i64 rv_22.1.Low, .int .i64 rv_22.1.High] 34), (13, .cells b_17 [.int .i64 rv_23.1.Low, .int .i64 rv_23.1.High] 34), (14, .cells b_18 [.int .i64 rv_24.1.Low, .int .i64 rv_24.1.High] 34)]) (D' := Dv_1) ?_ ?_
      ·rcases bcases (rv_21.2 == 22) with hbv_16 | hbv_16
       ·-- true
        refine guard_on hF rfl rfl hbv_16 ?_
        refine step hF (Y.move hF rfl) rfl fun a hF => ?_
        refine guard_on hF rfl rfl hbv_16 ?_
        refine step hF (Y.move hF rfl) rfl fun a hF => ?_
        refine guard_on hF rfl rfl hbv_16 ?_
        refine step hF (Y.eql hF rfl rfl) rfl fun a hF => ?_
        refine step hF (Y.pick_t hF rfl hbv_16 rfl) rfl fun a hF => ?_
        exact nil (then_n ⟨hF.weak ⟨rfl, rfl, rfl, rfl, rfl, rfl, rfl, rfl, rfl, (by rw [hbv_16]; rfl), trivial⟩, hS.weak ⟨rfl, rfl, rfl, rfl, rfl, rfl, rfl, rfl, trivial⟩⟩)
       ·-- false
        refine guard_off hF rfl rfl hbv_16 rfl fun a hF => ?_
        refine guard_off hF rfl rfl hbv_16 rfl fun a hF => ?_
        refine guard_off hF rfl rfl hbv_16 rfl fun a hF => ?_
        refine step hF (Y.pick_f hF rfl hbv_16 rfl) rfl fun a hF => ?_
        exact nil (then_n ⟨hF.weak ⟨rfl, rfl, rfl, rfl, rfl, rfl, rfl, rfl, rfl, (by rw [hbv_16]; rfl), trivial⟩, hS.weak ⟨rfl, rfl, rfl, rfl, rfl, rfl, rfl, rfl, trivial⟩⟩)
      intro a w hF hS
      refine step hF (Y.move hF rfl) rfl fun a hF => ?_
      refine join (N := 240) (rs := []) (w0 := w0) (D0 := D0) 8 (us := [(4, .bool false), (14, .pointer (some ⟨b_15, 0, none⟩)), (16, .pointer (some ⟨b_16, 0, none⟩)), (17, .int .i64 rv_22.2), (18, .pointer (some ⟨b_17, 0, none⟩)), (19, .int .i64 rv_23.2), (20, .pointer (some ⟨b_18, 0, none⟩)), (21, .int .i64 rv_24.2), (208, .bool (((rv_21.2 == 22) && (rv_23.2 == rv_21.2)) && ((rv_22.2 == 0) || (rv_22.2 == rv_21.2))))]) (ms := [(1, .cells b [.int .i64 c.Hours, .slice p c.Rates.length c_1, .slice p_1 c.Opens.length c_2, .slice p_2 c.Pairs.length c_3] 26), (2, .cells b_1 [.int .i64 n.a0, .int .i64 n.a1, .int .i64 n.a2, .int .i64 n.a3, .int .i64 n.a4] 66), (3, .cells b_2 [.int .i64 c.Hours, .slice p c.Rates.length c_1, .slice p_6 ((([] : List BeatOpen) ++ c.Opens).set (Int.toNat rv_17) (BeatOpen.mk e_2.Clock e_2.Hour rv_18)).length c_7, .slice p_2 c.Pairs.length c_3] 26), (9, .cells b_13 [.int .i64 e_2.Clock, .int .i64 e_2.Hour, .int .i64 rv_18.Low, .int .i64 rv_18.High] 63), (11, .cells b_15 [.int .i64 rv_21.1.Low, .int .i64 rv_21.1.High] 34), (12, .cells b_16 [.int .i64 rv_22.1.Low, .int .i64 rv_22.1.High] 34), (13, .cells b_17 [.int .i64 rv_23.1.Low, .int .i64 rv_23.1.High] 34), (14, .cells b_18 [.int .i64 rv_24.1.Low, .int .i64 rv_24.1.High] 34)]) (D' := Dv_1) ?_ ?_
      ·rcases bcases ((rv_21.2 == 22) && (rv_23.2 == rv_21.2)) with hbv_17 | hbv_17
       ·-- true
        refine guard_on hF rfl rfl hbv_17 ?_
        refine step hF (Y.move hF rfl) rfl fun a hF => ?_
        refine guard_on hF rfl rfl hbv_17 ?_
        refine step hF (Y.eql hF rfl rfl) rfl fun a hF => ?_
        refine guard_on hF rfl rfl hbv_17 ?_
        refine step hF (Y.move hF rfl) rfl fun a hF => ?_
        refine join (N := 240) (rs := []) (w0 := w0) (D0 := D0) 4 (us := [(4, .bool false), (14, .pointer (some ⟨b_15, 0, none⟩)), (16, .pointer (some ⟨b_16, 0, none⟩)), (17, .int .i64 rv_22.2), (18, .pointer (some ⟨b_17, 0, none⟩)), (19, .int .i64 rv_23.2), (20, .pointer (some ⟨b_18, 0, none⟩)), (21, .int .i64 rv_24.2), (200, .bool ((rv_21.2 == 22) && (rv_23.2 == rv_21.2))), (207, .bool ((rv_22.2 == 0) || (rv_22.2 == rv_21.2)))]) (ms := [(1, .cells b [.int .i64 c.Hours, .slice p c.Rates.length c_1, .slice p_1 c.Opens.length c_2, .slice p_2 c.Pairs.length c_3] 26), (2, .cells b_1 [.int .i64 n.a0, .int .i64 n.a1, .int .i64 n.a2, .int .i64 n.a3, .int .i64 n.a4] 66), (3, .cells b_2 [.int .i64 c.Hours, .slice p c.Rates.length c_1, .slice p_6 ((([] : List BeatOpen) ++ c.Opens).set (Int.toNat rv_17) (BeatOpen.mk e_2.Clock e_2.Hour rv_18)).length c_7, .slice p_2 c.Pairs.length c_3] 26), (9, .cells b_13 [.int .i64 e_2.Clock, .int .i64 e_2.Hour, .int .i64 rv_18.Low, .int .i64 rv_18.High] 63), (11, .cells b_15 [.int .i64 rv_21.1.Low, .int .i64 rv_21.1.High] 34), (12, .cells b_16 [.int .i64 rv_22.1.Low, .int .i64 rv_22.1.High] 34), (13, .cells b_17 [.int .i64 rv_23.1.Low, .int .i64 rv_23.1.High] 34), (14, .cells b_18 [.int .i64 rv_24.1.Low, .int .i64 rv_24.1.High] 34)]) (D' := Dv_1) ?_ ?_
        ·rcases bcases (rv_22.2 == 0) with hbv_18 | hbv_18
         ·-- true
          refine guard_off hF rfl rfl hbv_18 rfl fun a hF => ?_
          refine guard_off hF rfl rfl hbv_18 rfl fun a hF => ?_
          refine guard_off hF rfl rfl hbv_18 rfl fun a hF => ?_
          refine guard_on hF rfl rfl hbv_17 ?_
          refine step hF (Y.pick_t hF rfl hbv_18 rfl) rfl fun a hF => ?_
          exact nil (then_n ⟨hF.weak ⟨rfl, rfl, rfl, rfl, rfl, rfl, rfl, rfl, rfl, (by rw [hbv_18]; rfl), trivial⟩, hS.weak ⟨rfl, rfl, rfl, rfl, rfl, rfl, rfl, rfl, trivial⟩⟩)
         ·-- false
          refine guard_on hF rfl rfl hbv_18 ?_
          refine step hF (Y.move hF rfl) rfl fun a hF => ?_
          refine guard_on hF rfl rfl hbv_18 ?_
          refine step hF (Y.move hF rfl) rfl fun a hF => ?_
          refine guard_on hF rfl rfl hbv_18 ?_
          refine step hF (Y.eql hF rfl rfl) rfl fun a hF => ?_
          refine guard_on hF rfl rfl hbv_17 ?_
          refine step hF (Y.pick_f hF rfl hbv_18 rfl) rfl fun a hF => ?_
          exact nil (then_n ⟨hF.weak ⟨rfl, rfl, rfl, rfl, rfl, rfl, rfl, rfl, rfl, (by rw [hbv_18]; rfl), trivial⟩, hS.weak ⟨rfl, rfl, rfl, rfl, rfl, rfl, rfl, rfl, trivial⟩⟩)
        intro a w hF hS
        refine step hF (Y.pick_t hF rfl hbv_17 rfl) rfl fun a hF => ?_
        exact nil (then_n ⟨hF.weak ⟨rfl, rfl, rfl, rfl, rfl, rfl, rfl, rfl, (by rw [hbv_17]; rfl), trivial⟩, hS.weak ⟨rfl, rfl, rfl, rfl, rfl, rfl, rfl, rfl, trivial⟩⟩)
       ·-- false
        refine guard_off hF rfl rfl hbv_17 rfl fun a hF => ?_
        refine guard_off hF rfl rfl hbv_17 rfl fun a hF => ?_
        refine guard_off hF rfl rfl hbv_17 rfl fun a hF => ?_
        refine guard_offu hF rfl rfl rfl fun a hF => ?_
        refine guard_offu hF rfl rfl rfl fun a hF => ?_
        refine guard_offu hF rfl rfl rfl fun a hF => ?_
        refine guard_off hF rfl rfl hbv_17 rfl fun a hF => ?_
        refine step hF (Y.pick_f hF rfl hbv_17 rfl) rfl fun a hF => ?_
        exact nil (then_n ⟨hF.weak ⟨rfl, rfl, rfl, rfl, rfl, rfl, rfl, rfl, (by rw [hbv_17]; rfl), trivial⟩, hS.weak ⟨rfl, rfl, rfl, rfl, rfl, rfl, rfl, rfl, trivial⟩⟩)
      intro a w hF hS
      refine step hF (Y.move hF rfl) rfl fun a hF => ?_
      refine join (N := 240) (rs := []) (w0 := w0) (D0 := D0) 4 (us := [(4, .bool false), (14, .pointer (some ⟨b_15, 0, none⟩)), (16, .pointer (some ⟨b_16, 0, none⟩)), (17, .int .i64 rv_22.2), (18, .pointer (some ⟨b_17, 0, none⟩)), (19, .int .i64 rv_23.2), (20, .pointer (some ⟨b_18, 0, none⟩)), (21, .int .i64 rv_24.2), (213, .bool ((((rv_21.2 == 22) && (rv_23.2 == rv_21.2)) && ((rv_22.2 == 0) || (rv_22.2 == rv_21.2))) && (rv_24.2 == rv_22.2)))]) (ms := [(1, .cells b [.int .i64 c.Hours, .slice p c.Rates.length c_1, .slice p_1 c.Opens.length c_2, .slice p_2 c.Pairs.length c_3] 26), (2, .cells b_1 [.int .i64 n.a0, .int .i64 n.a1, .int .i64 n.a2, .int .i64 n.a3, .int .i64 n.a4] 66), (3, .cells b_2 [.int .i64 c.Hours, .slice p c.Rates.length c_1, .slice p_6 ((([] : List BeatOpen) ++ c.Opens).set (Int.toNat rv_17) (BeatOpen.mk e_2.Clock e_2.Hour rv_18)).length c_7, .slice p_2 c.Pairs.length c_3] 26), (9, .cells b_13 [.int .i64 e_2.Clock, .int .i64 e_2.Hour, .int .i64 rv_18.Low, .int .i64 rv_18.High] 63), (11, .cells b_15 [.int .i64 rv_21.1.Low, .int .i64 rv_21.1.High] 34), (12, .cells b_16 [.int .i64 rv_22.1.Low, .int .i64 rv_22.1.High] 34), (13, .cells b_17 [.int .i64 rv_23.1.Low, .int .i64 rv_23.1.High] 34), (14, .cells b_18 [.int .i64 rv_24.1.Low, .int .i64 rv_24.1.High] 34)]) (D' := Dv_1) ?_ ?_
      ·rcases bcases (((rv_21.2 == 22) && (rv_23.2 == rv_21.2)) && ((rv_22.2 == 0) || (rv_22.2 == rv_21.2))) with hbv_19 | hbv_19
       ·-- true
        refine guard_on hF rfl rfl hbv_19 ?_
        refine step hF (Y.move hF rfl) rfl fun a hF => ?_
        refine guard_on hF rfl rfl hbv_19 ?_
        refine step hF (Y.move hF rfl) rfl fun a hF => ?_
        refine guard_on hF rfl rfl hbv_19 ?_
        refine step hF (Y.eql hF rfl rfl) rfl fun a hF => ?_
        refine step hF (Y.pick_t hF rfl hbv_19 rfl) rfl fun a hF => ?_
        exact nil (then_n ⟨hF.weak ⟨rfl, rfl, rfl, rfl, rfl, rfl, rfl, rfl, (by rw [hbv_19]; rfl), trivial⟩, hS.weak ⟨rfl, rfl, rfl, rfl, rfl, rfl, rfl, rfl, trivial⟩⟩)
       ·-- false
        refine guard_off hF rfl rfl hbv_19 rfl fun a hF => ?_
        refine guard_off hF rfl rfl hbv_19 rfl fun a hF => ?_
        refine guard_off hF rfl rfl hbv_19 rfl fun a hF => ?_
        refine step hF (Y.pick_f hF rfl hbv_19 rfl) rfl fun a hF => ?_
        exact nil (then_n ⟨hF.weak ⟨rfl, rfl, rfl, rfl, rfl, rfl, rfl, rfl, (by rw [hbv_19]; rfl), trivial⟩, hS.weak ⟨rfl, rfl, rfl, rfl, rfl, rfl, rfl, rfl, trivial⟩⟩)
      intro a w hF hS
      refine step hF (Y.move hF rfl) rfl fun a hF => ?_
      obtain ⟨t_4, ht_4, h⟩ := bind_some h
      refine join (N := 240) (rs := []) (w0 := w0) (D0 := D0) 2 (us := [(4, .bool false), (14, .pointer (some ⟨b_15, 0, none⟩)), (16, .pointer (some ⟨b_16, 0, none⟩)), (17, .int .i64 rv_22.2), (18, .pointer (some ⟨b_17, 0, none⟩)), (19, .int .i64 rv_23.2), (20, .pointer (some ⟨b_18, 0, none⟩)), (21, .int .i64 rv_24.2), (216, .bool t_4)]) (ms := [(1, .cells b [.int .i64 c.Hours, .slice p c.Rates.length c_1, .slice p_1 c.Opens.length c_2, .slice p_2 c.Pairs.length c_3] 26), (2, .cells b_1 [.int .i64 n.a0, .int .i64 n.a1, .int .i64 n.a2, .int .i64 n.a3, .int .i64 n.a4] 66), (3, .cells b_2 [.int .i64 c.Hours, .slice p c.Rates.length c_1, .slice p_6 ((([] : List BeatOpen) ++ c.Opens).set (Int.toNat rv_17) (BeatOpen.mk e_2.Clock e_2.Hour rv_18)).length c_7, .slice p_2 c.Pairs.length c_3] 26), (9, .cells b_13 [.int .i64 e_2.Clock, .int .i64 e_2.Hour, .int .i64 rv_18.Low, .int .i64 rv_18.High] 63), (11, .cells b_15 [.int .i64 rv_21.1.Low, .int .i64 rv_21.1.High] 34), (12, .cells b_16 [.int .i64 rv_22.1.Low, .int .i64 rv_22.1.High] 34), (13, .cells b_17 [.int .i64 rv_23.1.Low, .int .i64 rv_23.1.High] 34), (14, .cells b_18 [.int .i64 rv_24.1.Low, .int .i64 rv_24.1.High] 34)]) (D' := Dv_1) ?_ ?_
      ·rcases bcases ((((rv_21.2 == 22) && (rv_23.2 == rv_21.2)) && ((rv_22.2 == 0) || (rv_22.2 == rv_21.2))) && (rv_24.2 == rv_22.2)) with hbv_20 | hbv_20
       ·-- true
        replace h := cond_t ht_4 hbv_20
        refine guard_on hF rfl rfl hbv_20 ?_
        obtain ⟨rv_25, hx_28, h⟩ := bind_some h
        refine O.callP (us := []) ca_21 hF hS (remontoirlaw02_works_ok hS.stab hG rv_25 hx_28) rfl rfl fun a w hF hS => ?_
        refine step hF (Y.pick_t hF rfl hbv_20 rfl) rfl fun a hF => ?_
        obtain rfl := some_inj h
        exact nil (then_n ⟨hF.weak ⟨rfl, rfl, rfl, rfl, rfl, rfl, rfl, rfl, rfl, trivial⟩, hS.weak ⟨rfl, rfl, rfl, rfl, rfl, rfl, rfl, rfl, trivial⟩⟩)
       ·-- false
        replace h := cond_f ht_4 hbv_20
        refine guard_off hF rfl rfl hbv_20 rfl fun a hF => ?_
        refine step hF (Y.pick_f hF rfl hbv_20 rfl) rfl fun a hF => ?_
        obtain rfl := some_inj h
        exact nil (then_n ⟨hF.weak ⟨rfl, rfl, rfl, rfl, rfl, rfl, rfl, rfl, rfl, trivial⟩, hS.weak ⟨rfl, rfl, rfl, rfl, rfl, rfl, rfl, rfl, trivial⟩⟩)
      intro a w hF hS
      refine step hF (Y.assign hF rfl) rfl fun a hF => ?_
      refine nil (then_n ?_)
      refine ret_ (then_r ?_)
      obtain rfl := some_inj h
      exact leaveP Tryd.results10 hF hS (.cons (.tmp rfl) .nil) .nil rfl
     ·replace h := cond_f h hbv_15
      refine skip_ (then_n ?_)
      refine seq ?_
      refine region ?_
      refine step hF (Y.move hF rfl) rfl fun a hF => ?_
      refine step hF (Y.eql hF rfl rfl) rfl fun a hF => ?_
      refine step hF (Y.move hF rfl) rfl fun a hF => ?_
      refine join (N := 240) (rs := []) (w0 := w0) (D0 := D0) 3 (us := [(4, .bool false), (14, .pointer (some ⟨b_15, 0, none⟩)), (16, .pointer (some ⟨b_16, 0, none⟩)), (18, .pointer (some ⟨b_17, 0, none⟩)), (20, .pointer (some ⟨b_18, 0, none⟩)), (21, .int .i64 rv_24.2), (222, .bool ((rv_22.2 == 0) && (rv_23.2 == 0)))]) (ms := [(1, .cells b [.int .i64 c.Hours, .slice p c.Rates.length c_1, .slice p_1 c.Opens.length c_2, .slice p_2 c.Pairs.length c_3] 26), (2, .cells b_1 [.int .i64 n.a0, .int .i64 n.a1, .int .i64 n.a2, .int .i64 n.a3, .int .i64 n.a4] 66), (3, .cells b_2 [.int .i64 c.Hours, .slice p c.Rates.length c_1, .slice p_6 ((([] : List BeatOpen) ++ c.Opens).set (Int.toNat rv_17) (BeatOpen.mk e_2.Clock e_2.Hour rv_18)).length c_7, .slice p_2 c.Pairs.length c_3] 26), (9, .cells b_13 [.int .i64 e_2.Clock, .int .i64 e_2.Hour, .int .i64 rv_18.Low, .int .i64 rv_18.High] 63), (11, .cells b_15 [.int .i64 rv_21.1.Low, .int .i64 rv_21.1.High] 34), (12, .cells b_16 [.int .i64 rv_22.1.Low, .int .i64 rv_22.1.High] 34), (13, .cells b_17 [.int .i64 rv_23.1.Low, .int .i64 rv_23.1.High] 34), (14, .cells b_18 [.int .i64 rv_24.1.Low, .int .i64 rv_24.1.High] 34)]) (D' := Dv_1) ?_ ?_
      ·rcases bcases (rv_22.2 == 0) with hbv_21 | hbv_21
       ·-- true
        refine guard_on hF rfl rfl hbv_21 ?_
        refine step hF (Y.move hF rfl) rfl fun a hF => ?_
        refine guard_on hF rfl rfl hbv_21 ?_
        refine step hF (Y.eql hF rfl rfl) rfl fun a hF => ?_
        refine step hF (Y.pick_t hF rfl hbv_21 rfl) rfl fun a hF => ?_
        exact nil (then_n ⟨hF.weak ⟨rfl, rfl, rfl, rfl, rfl, rfl, (by rw [hbv_21]; rfl), trivial⟩, hS.weak ⟨rfl, rfl, rfl, rfl, rfl, rfl, rfl, rfl, trivial⟩⟩)
       ·-- false
        refine guard_off hF rfl rfl hbv_21 rfl fun a hF => ?_
        refine guard_off hF rfl rfl hbv_21 rfl fun a hF => ?_
        refine step hF (Y.pick_f hF rfl hbv_21 rfl) rfl fun a hF => ?_
        exact nil (then_n ⟨hF.weak ⟨rfl, rfl, rfl, rfl, rfl, rfl, (by rw [hbv_21]; rfl), trivial⟩, hS.weak ⟨rfl, rfl, rfl, rfl, rfl, rfl, rfl, rfl, trivial⟩⟩)
      intro a w hF hS
      refine step hF (Y.move hF rfl) rfl fun a hF => ?_
      refine join (N := 240) (rs := []) (w0 := w0) (D0 := D0) 3 (us := [(4, .bool false), (14, .pointer (some ⟨b_15, 0, none⟩)), (16, .pointer (some ⟨b_16, 0, none⟩)), (18, .pointer (some ⟨b_17, 0, none⟩)), (20, .pointer (some ⟨b_18, 0, none⟩)), (226, .bool (((rv_22.2 == 0) && (rv_23.2 == 0)) && (rv_24.2 == 0)))]) (ms := [(1, .cells b [.int .i64 c.Hours, .slice p c.Rates.length c_1, .slice p_1 c.Opens.length c_2, .slice p_2 c.Pairs.length c_3] 26), (2, .cells b_1 [.int .i64 n.a0, .int .i64 n.a1, .int .i64 n.a2, .int .i64 n.a3, .int .i64 n.a4] 66), (3, .cells b_2 [.int .i64 c.Hours, .slice p c.Rates.length c_1, .slice p_6 ((([] : List BeatOpen) ++ c.Opens).set (Int.toNat rv_17) (BeatOpen.mk e_2.Clock e_2.Hour rv_18)).length c_7, .slice p_2 c.Pairs.length c_3] 26), (9, .cells b_13 [.int .i64 e_2.Clock, .int .i64 e_2.Hour, .int .i64 rv_18.Low, .int .i64 rv_18.High] 63), (11, .cells b_15 [.int .i64 rv_21.1.Low, .int .i64 rv_21.1.High] 34), (12, .cells b_16 [.int .i64 rv_22.1.Low, .int .i64 rv_22.1.High] 34), (13, .cells b_17 [.int .i64 rv_23.1.Low, .int .i64 rv_23.1.High] 34), (14, .cells b_18 [.int .i64 rv_24.1.Low, .int .i64 rv_24.1.High] 34)]) (D' := Dv_1) ?_ ?_
      ·rcases bcases ((rv_22.2 == 0) && (rv_23.2 == 0)) with hbv_22 | hbv_22
       ·-- true
        refine guard_on hF rfl rfl hbv_22 ?_
        refine step hF (Y.move hF rfl) rfl fun a hF => ?_
        refine guard_on hF rfl rfl hbv_22 ?_
        refine step hF (Y.eql hF rfl rfl) rfl fun a hF => ?_
        refine step hF (Y.pick_t hF rfl hbv_22 rfl) rfl fun a hF => ?_
        exact nil (then_n ⟨hF.weak ⟨rfl, rfl, rfl, rfl, rfl, (by rw [hbv_22]; rfl), trivial⟩, hS.weak ⟨rfl, rfl, rfl, rfl, rfl, rfl, rfl, rfl, trivial⟩⟩)
       ·-- false
        refine guard_off hF rfl rfl hbv_22 rfl fun a hF => ?_
        refine guard_off hF rfl rfl hbv_22 rfl fun a hF => ?_
        refine step hF (Y.pick_f hF rfl hbv_22 rfl) rfl fun a hF => ?_
        exact nil (then_n ⟨hF.weak ⟨rfl, rfl, rfl, rfl, rfl, (by rw [hbv_22]; rfl), trivial⟩, hS.weak ⟨rfl, rfl, rfl, rfl, rfl, rfl, rfl, rfl, trivial⟩⟩)
      intro a w hF hS
      refine step hF (Y.move hF rfl) rfl fun a hF => ?_
      obtain ⟨t_5, ht_5, h⟩ := bind_some h
      refine join (N := 240) (rs := []) (w0 := w0) (D0 := D0) 4 (us := [(4, .bool false), (18, .pointer (some ⟨b_17, 0, none⟩)), (20, .pointer (some ⟨b_18, 0, none⟩)), (231, .bool t_5)]) (ms := [(1, .cells b [.int .i64 c.Hours, .slice p c.Rates.length c_1, .slice p_1 c.Opens.length c_2, .slice p_2 c.Pairs.length c_3] 26), (2, .cells b_1 [.int .i64 n.a0, .int .i64 n.a1, .int .i64 n.a2, .int .i64 n.a3, .int .i64 n.a4] 66), (3, .cells b_2 [.int .i64 c.Hours, .slice p c.Rates.length c_1, .slice p_6 ((([] : List BeatOpen) ++ c.Opens).set (Int.toNat rv_17) (BeatOpen.mk e_2.Clock e_2.Hour rv_18)).length c_7, .slice p_2 c.Pairs.length c_3] 26), (9, .cells b_13 [.int .i64 e_2.Clock, .int .i64 e_2.Hour, .int .i64 rv_18.Low, .int .i64 rv_18.High] 63), (11, .cells b_15 [.int .i64 rv_21.1.Low, .int .i64 rv_21.1.High] 34), (12, .cells b_16 [.int .i64 rv_22.1.Low, .int .i64 rv_22.1.High] 34), (13, .cells b_17 [.int .i64 rv_23.1.Low, .int .i64 rv_23.1.High] 34), (14, .cells b_18 [.int .i64 rv_24.1.Low, .int .i64 rv_24.1.High] 34)]) (D' := Dv_1) ?_ ?_
      ·rcases bcases (((rv_22.2 == 0) && (rv_23.2 == 0)) && (rv_24.2 == 0)) with hbv_23 | hbv_23
       ·-- true
        replace h := cond_t ht_5 hbv_23
        refine guard_on hF rfl rfl hbv_23 ?_
        refine step hF (Y.loadNL 11 sz_34 hF rfl hS rfl rfl rfl) rfl fun a hF => ?_
        refine guard_on hF rfl rfl hbv_23 ?_
        refine step hF (Y.loadNL 12 sz_34 hF rfl hS rfl rfl rfl) rfl fun a hF => ?_
        refine guard_on hF rfl rfl hbv_23 ?_
        obtain ⟨rv_26, hx_29, h⟩ := bind_some h
        refine O.callP (us := [.agg #[.int .i64 rv_21.1.Low, .int .i64 rv_21.1.High], .agg #[.int .i64 rv_22.1.Low, .int .i64 rv_22.1.High]]) ca_36 hF hS (remontoirref00_Within_ok hS.stab rv_21.1 rv_22.1 rv_26 hx_29) rfl rfl fun a w hF hS => ?_
        refine step hF (Y.pick_t hF rfl hbv_23 rfl) rfl fun a hF => ?_
        obtain rfl := some_inj h
        exact nil (then_n ⟨hF.weak ⟨rfl, rfl, rfl, rfl, trivial⟩, hS.weak ⟨rfl, rfl, rfl, rfl, rfl, rfl, rfl, rfl, trivial⟩⟩)
       ·-- false
        replace h := cond_f ht_5 hbv_23
        refine guard_off hF rfl rfl hbv_23 rfl fun a hF => ?_
        refine guard_off hF rfl rfl hbv_23 rfl fun a hF => ?_
        refine guard_off hF rfl rfl hbv_23 rfl fun a hF => ?_
        refine step hF (Y.pick_f hF rfl hbv_23 rfl) rfl fun a hF => ?_
        obtain rfl := some_inj h
        exact nil (then_n ⟨hF.weak ⟨rfl, rfl, rfl, rfl, trivial⟩, hS.weak ⟨rfl, rfl, rfl, rfl, rfl, rfl, rfl, rfl, trivial⟩⟩)
      intro a w hF hS
      refine step hF (Y.move hF rfl) rfl fun a hF => ?_
      obtain ⟨t_6, ht_6, h⟩ := bind_some h
      refine join (N := 240) (rs := []) (w0 := w0) (D0 := D0) 4 (us := [(4, .bool false), (236, .bool t_6)]) (ms := [(1, .cells b [.int .i64 c.Hours, .slice p c.Rates.length c_1, .slice p_1 c.Opens.length c_2, .slice p_2 c.Pairs.length c_3] 26), (2, .cells b_1 [.int .i64 n.a0, .int .i64 n.a1, .int .i64 n.a2, .int .i64 n.a3, .int .i64 n.a4] 66), (3, .cells b_2 [.int .i64 c.Hours, .slice p c.Rates.length c_1, .slice p_6 ((([] : List BeatOpen) ++ c.Opens).set (Int.toNat rv_17) (BeatOpen.mk e_2.Clock e_2.Hour rv_18)).length c_7, .slice p_2 c.Pairs.length c_3] 26), (9, .cells b_13 [.int .i64 e_2.Clock, .int .i64 e_2.Hour, .int .i64 rv_18.Low, .int .i64 rv_18.High] 63), (11, .cells b_15 [.int .i64 rv_21.1.Low, .int .i64 rv_21.1.High] 34), (12, .cells b_16 [.int .i64 rv_22.1.Low, .int .i64 rv_22.1.High] 34), (13, .cells b_17 [.int .i64 rv_23.1.Low, .int .i64 rv_23.1.High] 34), (14, .cells b_18 [.int .i64 rv_24.1.Low, .int .i64 rv_24.1.High] 34)]) (D' := Dv_1) ?_ ?_
      ·rcases bcases t_5 with hbv_24 | hbv_24
       ·-- true
        replace h := cond_t ht_6 hbv_24
        refine guard_on hF rfl rfl hbv_24 ?_
        refine step hF (Y.loadNL 13 sz_34 hF rfl hS rfl rfl rfl) rfl fun a hF => ?_
        refine guard_on hF rfl rfl hbv_24 ?_
        refine step hF (Y.loadNL 14 sz_34 hF rfl hS rfl rfl rfl) rfl fun a hF => ?_
        refine guard_on hF rfl rfl hbv_24 ?_
        obtain ⟨rv_27, hx_30, h⟩ := bind_some h
        refine O.callP (us := [.agg #[.int .i64 rv_23.1.Low, .int .i64 rv_23.1.High], .agg #[.int .i64 rv_24.1.Low, .int .i64 rv_24.1.High]]) ca_36 hF hS (remontoirref00_Within_ok hS.stab rv_23.1 rv_24.1 rv_27 hx_30) rfl rfl fun a w hF hS => ?_
        refine step hF (Y.pick_t hF rfl hbv_24 rfl) rfl fun a hF => ?_
        obtain rfl := some_inj h
        exact nil (then_n ⟨hF.weak ⟨rfl, rfl, trivial⟩, hS.weak ⟨rfl, rfl, rfl, rfl, rfl, rfl, rfl, rfl, trivial⟩⟩)
       ·-- false
        replace h := cond_f ht_6 hbv_24
        refine guard_off hF rfl rfl hbv_24 rfl fun a hF => ?_
        refine guard_off hF rfl rfl hbv_24 rfl fun a hF => ?_
        refine guard_off hF rfl rfl hbv_24 rfl fun a hF => ?_
        refine step hF (Y.pick_f hF rfl hbv_24 rfl) rfl fun a hF => ?_
        obtain rfl := some_inj h
        exact nil (then_n ⟨hF.weak ⟨rfl, rfl, trivial⟩, hS.weak ⟨rfl, rfl, rfl, rfl, rfl, rfl, rfl, rfl, trivial⟩⟩)
      intro a w hF hS
      refine step hF (Y.move hF rfl) rfl fun a hF => ?_
      obtain ⟨t_7, ht_7, h⟩ := bind_some h
      refine join (N := 240) (rs := []) (w0 := w0) (D0 := D0) 2 (us := [(4, .bool false), (239, .bool t_7)]) (ms := [(1, .cells b [.int .i64 c.Hours, .slice p c.Rates.length c_1, .slice p_1 c.Opens.length c_2, .slice p_2 c.Pairs.length c_3] 26), (2, .cells b_1 [.int .i64 n.a0, .int .i64 n.a1, .int .i64 n.a2, .int .i64 n.a3, .int .i64 n.a4] 66), (3, .cells b_2 [.int .i64 c.Hours, .slice p c.Rates.length c_1, .slice p_6 ((([] : List BeatOpen) ++ c.Opens).set (Int.toNat rv_17) (BeatOpen.mk e_2.Clock e_2.Hour rv_18)).length c_7, .slice p_2 c.Pairs.length c_3] 26), (9, .cells b_13 [.int .i64 e_2.Clock, .int .i64 e_2.Hour, .int .i64 rv_18.Low, .int .i64 rv_18.High] 63), (11, .cells b_15 [.int .i64 rv_21.1.Low, .int .i64 rv_21.1.High] 34), (12, .cells b_16 [.int .i64 rv_22.1.Low, .int .i64 rv_22.1.High] 34), (13, .cells b_17 [.int .i64 rv_23.1.Low, .int .i64 rv_23.1.High] 34), (14, .cells b_18 [.int .i64 rv_24.1.Low, .int .i64 rv_24.1.High] 34)]) (D' := Dv_1) ?_ ?_
      ·rcases bcases t_6 with hbv_25 | hbv_25
       ·-- true
        replace h := cond_t ht_7 hbv_25
        refine guard_on hF rfl rfl hbv_25 ?_
        obtain ⟨rv_28, hx_31, h⟩ := bind_some h
        refine O.callP (us := []) ca_21 hF hS (remontoirlaw02_works_ok hS.stab hG rv_28 hx_31) rfl rfl fun a w hF hS => ?_
        refine step hF (Y.pick_t hF rfl hbv_25 rfl) rfl fun a hF => ?_
        obtain rfl := some_inj h
        exact nil (then_n ⟨hF.weak ⟨rfl, rfl, trivial⟩, hS.weak ⟨rfl, rfl, rfl, rfl, rfl, rfl, rfl, rfl, trivial⟩⟩)
       ·-- false
        replace h := cond_f ht_7 hbv_25
        refine guard_off hF rfl rfl hbv_25 rfl fun a hF => ?_
        refine step hF (Y.pick_f hF rfl hbv_25 rfl) rfl fun a hF => ?_
        obtain rfl := some_inj h
        exact nil (then_n ⟨hF.weak ⟨rfl, rfl, trivial⟩, hS.weak ⟨rfl, rfl, rfl, rfl, rfl, rfl, rfl, rfl, trivial⟩⟩)
      intro a w hF hS
      refine step hF (Y.assign hF rfl) rfl fun a hF => ?_
      refine nil (then_n ?_)
      refine ret_ ?_
      obtain rfl := some_inj h
      exact leaveP Tryd.results10 hF hS (.cons (.tmp rfl) .nil) .nil rfl
   ·replace h := cond_f h hbv_13
    refine seq ?_
    refine seq ?_
    refine region ?_
    refine step hF (Y.fieldAddr fo_26_3 hF rfl) rfl fun a hF => ?_
    refine step hF (Y.load1L 1 sz_24 hF rfl hS rfl rfl) rfl fun a hF => ?_
    refine step hF (Y.lenSl u_24 hF rfl) rfl fun a hF => ?_
    refine step hF (Y.eql hF rfl rfl) rfl fun a hF => ?_
    refine nil (then_n ?_)
    refine cond_b hF rfl (fun hbv_26 => ?_) (fun hbv_26 => ?_)
    ·replace h := cond_t h hbv_26
     refine seq ?_
     refine region ?_
     obtain ⟨rv_29, hx_32, h⟩ := bind_some h
     refine O.callP (us := []) ca_21 hF hS (remontoirlaw02_works_ok hS.stab hG rv_29 hx_32) rfl rfl fun a w hF hS => ?_
     refine step hF (Y.assign hF rfl) rfl fun a hF => ?_
     refine nil (then_n ?_)
     refine ret_ (then_r (blk_r (then_r ?_)))
     obtain rfl := some_inj h
     exact leaveP Tryd.results10 hF hS (.cons (.tmp rfl) .nil) .nil rfl
    ·replace h := cond_f h hbv_26
     refine skip_ (then_n ?_)
     refine seq ?_
     refine region ?_
     refine step hF (Y.indexArr u_66 sz_3 hF rfl rfl (by decide) (by decide)) rfl fun a hF => ?_
     refine step hF (Y.load1L 2 sz_3 hF rfl hS rfl rfl) rfl fun a hF => ?_
     refine step hF (Y.fieldAddr fo_26_3 hF rfl) rfl fun a hF => ?_
     refine step hF (Y.load1L 1 sz_24 hF rfl hS rfl rfl) rfl fun a hF => ?_
     refine step hF (Y.lenSl u_24 hF rfl) rfl fun a hF => ?_
     obtain ⟨rv_30, hx_33, h⟩ := bind_some h
     refine O.callP (us := [.int .i64 n.a2, .int .i64 (c.Pairs.length : Int)]) ca_34 hF hS (remontoirref00_Rest_ok hS.stab n.a2 (c.Pairs.length : Int) rv_30 hx_33) rfl rfl fun a w hF hS => ?_
     refine step hF (Y.assign hF rfl) rfl fun a hF => ?_
     refine nil (then_n ?_)
     refine seq ?_
     refine region ?_
     refine step hF (Y.fieldAddr fo_26_3 hF rfl) rfl fun a hF => ?_
     refine step hF (Y.load1L 1 sz_24 hF rfl hS rfl rfl) rfl fun a hF => ?_
     refine step hF (Y.move hF rfl) rfl fun a hF => ?_
     obtain ⟨e_3, hx_34, h⟩ := bind_some h
     obtain ⟨b_19, o_5, hE_5, hY_5⟩ := Y.indexS (P := Tryd.prog) (C := C_BeatPair) (xs := c.Pairs) (T := 24) (x := (.tmp 45)) (y := (.tmp 46)) u_24 sz_61 hF rfl rfl (hs_2).1 hx_34
     obtain ⟨cc_5, hc_5, hcell_5⟩ := hE_5.open
     obtain rfl := C_BeatPair.open hc_5
     refine step hF (hY_5) rfl fun a hF => ?_
     refine step hF (Y.loadNE (o := o_5) (k := 0) sz_61 hF rfl (hcell_5 _ hS.stab) rfl rfl) rfl fun a hF => ?_
     refine O.alloc 15 zc_61 hF hS rfl fun b_20 a w hF hS => ?_
     refine O.store (us := [.int .i64 e_3.Hour, .int .i64 e_3.One, .int .i64 e_3.Other, .int .i64 e_3.Read.Low, .int .i64 e_3.Read.High]) 15 sz_61 hF rfl rfl rfl rfl hS rfl rfl fun a w hF hS => ?_
     refine nil (then_n ?_)
     refine seq ?_
     refine region ?_
     refine step hF (Y.fieldAddr fo_61_3 hF rfl) rfl fun a hF => ?_
     refine step hF (Y.fieldAddr fo_34_0 hF rfl) rfl fun a hF => ?_
     refine step hF (Y.load1L 15 sz_3 hF rfl hS rfl rfl) rfl fun a hF => ?_
     refine step hF (Y.move hF rfl) rfl fun a hF => ?_
     refine step hF (Y.sub hF rfl rfl) rfl fun a hF => ?_
     refine step hF (Y.max2 hF rfl rfl) rfl fun a hF => ?_
     refine step hF (Y.fieldAddr fo_61_3 hF rfl) rfl fun a hF => ?_
     refine step hF (Y.fieldAddr fo_34_1 hF rfl) rfl fun a hF => ?_
     refine step hF (Y.load1L 15 sz_3 hF rfl hS rfl rfl) rfl fun a hF => ?_
     refine step hF (Y.move hF rfl) rfl fun a hF => ?_
     refine step hF (Y.add hF rfl rfl) rfl fun a hF => ?_
     refine step hF (Y.min2 hF rfl rfl) rfl fun a hF => ?_
     obtain ⟨rv_31, hx_35, h⟩ := bind_some h
     refine O.callP (us := [.int .i64 (if wr (e_3.Read.Low - rv_2) > -200000 then wr (e_3.Read.Low - rv_2) else -200000), .int .i64 (if wr (e_3.Read.High + rv_2) < 200000 then wr (e_3.Read.High + rv_2) else 200000)]) ca_37 hF hS (remontoirref00_To_ok hS.stab (if wr (e_3.Read.Low - rv_2) > -200000 then wr (e_3.Read.Low - rv_2) else -200000) (if wr (e_3.Read.High + rv_2) < 200000 then wr (e_3.Read.High + rv_2) else 200000) rv_31 hx_35) rfl rfl fun a w hF hS => ?_
     refine step hF (Y.fieldAddr fo_61_3 hF rfl) rfl fun a hF => ?_
     refine O.store (us := [.int .i64 rv_31.Low, .int .i64 rv_31.High]) 15 sz_34 hF rfl rfl rfl rfl hS rfl rfl fun a w hF hS => ?_
     refine nil (then_n ?_)
     refine seq ?_
     refine region ?_
     have hr_6 : Reps C_BeatPair D0 ([] : List BeatPair) [] := Reps.nil
     refine O.buildSlice (E := 61) (C := C_BeatPair) (xs := ([] : List BeatPair)) (cs := []) (us := []) (parts := []) 16 hF hS rfl (by kernel_rfl) hr_6 rfl rfl rfl fun p_7 c_8 a w hF hS => ?_
     refine step hF (Y.fieldAddr fo_26_3 hF rfl) rfl fun a hF => ?_
     refine step hF (Y.load1L 1 sz_24 hF rfl hS rfl rfl) rfl fun a hF => ?_
     obtain ⟨hg_4, h⟩ := ite_some h
     obtain ⟨ds_2, hds_2, hsrc_2⟩ := src_stab (C := C_BeatPair) (xs := c.Pairs) (hs_2).1 hS.stab
     refine O.append (C := C_BeatPair) (xs := ([] : List BeatPair)) (ys := c.Pairs) 16 gr_24 hF rfl rfl hS rfl hsrc_2 hr_6 hds_2 hg_4 rfl fun p_8 c_9 a w hF hS hr_7 => ?_
     refine step hF (Y.fieldAddr fo_26_3 hF rfl) rfl fun a hF => ?_
     refine O.store (us := [.slice p_8 (([] : List BeatPair) ++ c.Pairs).length c_9]) 3 sz_24 hF rfl rfl rfl rfl hS rfl rfl fun a w hF hS => ?_
     refine nil (then_n ?_)
     refine region ?_
     refine step hF (Y.fieldAddr fo_26_3 hF rfl) rfl fun a hF => ?_
     refine step hF (Y.load1L 3 sz_24 hF rfl hS rfl rfl) rfl fun a hF => ?_
     refine step hF (Y.move hF rfl) rfl fun a hF => ?_
     refine step hF (Y.loadNL 15 sz_61 hF rfl hS rfl rfl rfl) rfl fun a hF => ?_
     obtain ⟨hg_5, h⟩ := ite_some h
     obtain ⟨b_21, hp_2⟩ := hS.ownPtr (i := 16) rfl hg_5
     refine step hF (Y.indexOwn hp_2 u_24 sz_61 hg_5 hF rfl rfl) rfl fun a hF => ?_
     refine O.storeOwnP (C := C_BeatPair) (v0 := (BeatPair.mk e_3.Hour e_3.One e_3.Other rv_31)) (xs := (([] : List BeatPair) ++ c.Pairs)) (us := [.int .i64 e_3.Hour, .int .i64 e_3.One, .int .i64 e_3.Other, .int .i64 rv_31.Low, .int .i64 rv_31.High]) 16 hp_2 sz_61 hg_5 hF rfl rfl rfl rfl hS rfl hr_7 fun cs_2 a w hF hS hr_8 => ?_
     try rw [show (([] : List BeatPair) ++ c.Pairs).length = ((([] : List BeatPair) ++ c.Pairs).set (Int.toNat rv_30) (BeatPair.mk e_3.Hour e_3.One e_3.Other rv_31)).length from List.length_set.symm] at hF
     try rw [show (([] : List BeatPair) ++ c.Pairs).length = ((([] : List BeatPair) ++ c.Pairs).set (Int.toNat rv_30) (BeatPair.mk e_3.Hour e_3.One e_3.Other rv_31)).length from List.length_set.symm] at hS
     refine nil (blk_n (then_n ?_))
     refine seq ?_
     obtain ⟨rv_32, hx_36, h⟩ := bind_some h
     refine drawsV 11 (.flt 0 (.flt 1 (.flt 2 (.flt 3 (.flt 4 (.flt 6 (.flt 7 (.flt 8 (.flt 9 (.flt 10 (.alt 5 .done .stop))))))))))) mixed_ (by kernel_rfl) (fun w => St w0 D0 D0 [(1, .cells b [.int .i64 c.Hours, .slice p c.Rates.length c_1, .slice p_1 c.Opens.length c_2, .slice p_2 c.Pairs.length c_3] 26), (2, .cells b_1 [.int .i64 n.a0, .int .i64 n.a1, .int .i64 n.a2, .int .i64 n.a3, .int .i64 n.a4] 66), (3, .cells b_2 [.int .i64 c.Hours, .slice p c.Rates.length c_1, .slice p_1 c.Opens.length c_2, .slice p_8 ((([] : List BeatPair) ++ c.Pairs).set (Int.toNat rv_30) (BeatPair.mk e_3.Hour e_3.One e_3.Other rv_31)).length c_9] 26), (15, .cells b_20 [.int .i64 e_3.Hour, .int .i64 e_3.One, .int .i64 e_3.Other, .int .i64 rv_31.Low, .int .i64 rv_31.High] 61), (16, .own p_8 ((([] : List BeatPair) ++ c.Pairs).set (Int.toNat rv_30) (BeatPair.mk e_3.Hour e_3.One e_3.Other rv_31)).length c_9 cs_2 61 5)] w) (fun a w => Frm 240 [] [(2, .pointer (some ⟨b, 0, none⟩)), (4, .bool false), (5, .pointer (some ⟨b_2, 0, none⟩)), (156, .int .i64 rv_32), (158, .int .i64 n.a4), (161, .int .i64 (wr (c.Hours + 1)))] a ∧ St w0 D0 D0 [(1, .cells b [.int .i64 c.Hours, .slice p c.Rates.length c_1, .slice p_1 c.Opens.length c_2, .slice p_2 c.Pairs.length c_3] 26), (2, .cells b_1 [.int .i64 n.a0, .int .i64 n.a1, .int .i64 n.a2, .int .i64 n.a3, .int .i64 n.a4] 66), (3, .cells b_2 [.int .i64 c.Hours, .slice p c.Rates.length c_1, .slice p_1 c.Opens.length c_2, .slice p_8 ((([] : List BeatPair) ++ c.Pairs).set (Int.toNat rv_30) (BeatPair.mk e_3.Hour e_3.One e_3.Other rv_31)).length c_9] 26), (15, .cells b_20 [.int .i64 e_3.Hour, .int .i64 e_3.One, .int .i64 e_3.Other, .int .i64 rv_31.Low, .int .i64 rv_31.High] 61), (16, .own p_8 ((([] : List BeatPair) ++ c.Pairs).set (Int.toNat rv_30) (BeatPair.mk e_3.Hour e_3.One e_3.Other rv_31)).length c_9 cs_2 61 5)] w) (hS.weak (ms := [(1, .cells b [.int .i64 c.Hours, .slice p c.Rates.length c_1, .slice p_1 c.Opens.length c_2, .slice p_2 c.Pairs.length c_3] 26), (2, .cells b_1 [.int .i64 n.a0, .int .i64 n.a1, .int .i64 n.a2, .int .i64 n.a3, .int .i64 n.a4] 66), (3, .cells b_2 [.int .i64 c.Hours, .slice p c.Rates.length c_1, .slice p_1 c.Opens.length c_2, .slice p_8 ((([] : List BeatPair) ++ c.Pairs).set (Int.toNat rv_30) (BeatPair.mk e_3.Hour e_3.One e_3.Other rv_31)).length c_9] 26), (15, .cells b_20 [.int .i64 e_3.Hour, .int .i64 e_3.One, .int .i64 e_3.Other, .int .i64 rv_31.Low, .int .i64 rv_31.High] 61), (16, .own p_8 ((([] : List BeatPair) ++ c.Pairs).set (Int.toNat rv_30) (BeatPair.mk e_3.Hour e_3.One e_3.Other rv_31)).length c_9 cs_2 61 5)]) ⟨rfl, rfl, rfl, rfl, rfl, trivial⟩).drew (fun _ _ _ _ h => h) ?_ ?_
     ·replace hS := hS.drew
      have hle0 := hS.le
      refine stepV (i := 0) rfl hF (fun w hS => Y.indexArr u_66 sz_3 hF rfl rfl (by decide) (by decide)) rfl fun a hF => ?_
      refine stepV (i := 1) rfl hF (fun w hS => Y.load1L 2 sz_3 hF rfl hS rfl rfl) rfl fun a hF => ?_
      refine stepV (i := 2) rfl hF (fun w hS => Y.fieldAddr fo_26_1 hF rfl) rfl fun a hF => ?_
      refine stepV (i := 3) rfl hF (fun w hS => Y.load1L 1 sz_22 hF rfl hS rfl rfl) rfl fun a hF => ?_
      refine stepV (i := 4) rfl hF (fun w hS => Y.lenSl u_22 hF rfl) rfl fun a hF => ?_
      refine stepV (i := 6) rfl hF (fun w hS => Y.indexArr u_66 sz_3 hF rfl rfl (by decide) (by decide)) rfl fun a hF => ?_
      refine stepV (i := 7) rfl hF (fun w hS => Y.load1L 2 sz_3 hF rfl hS rfl rfl) rfl fun a hF => ?_
      refine stepV (i := 8) rfl hF (fun w hS => Y.fieldAddr fo_26_0 hF rfl) rfl fun a hF => ?_
      refine stepV (i := 9) rfl hF (fun w hS => Y.load1L 1 sz_3 hF rfl hS rfl rfl) rfl fun a hF => ?_
      refine stepV (i := 10) rfl hF (fun w hS => Y.add hF rfl rfl) rfl fun a hF => ?_
      refine oneV (i := 5) rfl ?_ trivial
      refine O.callP (us := [.int .i64 n.a3, .int .i64 (c.Rates.length : Int)]) ca_34 hF hS (remontoirref00_Rest_ok hS.stab n.a3 (c.Rates.length : Int) rv_32 hx_36) rfl rfl fun a w hF hS => ?_
      refine nil (then_n ⟨hS.weak ⟨rfl, rfl, rfl, rfl, rfl, trivial⟩, ?_⟩)
      exact toTailV ⟨hF.weak ⟨rfl, rfl, rfl, rfl, rfl, rfl, trivial⟩, hS.weak ⟨rfl, rfl, rfl, rfl, rfl, trivial⟩⟩
     rintro a w ⟨hF, hS⟩
     obtain ⟨rv_33, hx_37, h⟩ := bind_some h
     refine O.callP (us := [.int .i64 n.a4, .int .i64 (wr (c.Hours + 1))]) ca_34 hF hS (remontoirref00_Rest_ok hS.stab n.a4 (wr (c.Hours + 1)) rv_33 hx_37) rfl rfl fun a w hF hS => ?_
     refine step hF (Y.assign hF rfl) rfl fun a hF => ?_
     refine step hF (Y.assign hF rfl) rfl fun a hF => ?_
     refine nil (then_n ?_)
     refine seq ?_
     refine region ?_
     refine step hF (Y.loadNL 1 sz_26 hF rfl hS rfl rfl rfl) rfl fun a hF => ?_
     refine step hF (Y.move hF rfl) rfl fun a hF => ?_
     refine step hF (Y.move hF rfl) rfl fun a hF => ?_
     obtain ⟨rv_34, hx_38, h⟩ := bind_some h
     refine O.callP (us := [.agg #[.int .i64 c.Hours, .slice p c.Rates.length c_1, .slice p_1 c.Opens.length c_2, .slice p_2 c.Pairs.length c_3], .int .i64 rv_32, .int .i64 rv_33]) ca_19 hF hS (beat_Offset_ok hS.stab c rv_32 rv_33 hs hs_1 hs_2 hG rv_34 hx_38) rfl rfl fun a w hF hS => ?_
     refine step hF (Y.move hF rfl) rfl fun a hF => ?_
     refine step hF (Y.extract hF rfl rfl) rfl fun a hF => ?_
     refine step hF (Y.extract hF rfl rfl) rfl fun a hF => ?_
     refine O.alloc 17 zc_34 hF hS rfl fun b_22 a w hF hS => ?_
     refine O.store (us := [.int .i64 rv_34.1.Low, .int .i64 rv_34.1.High]) 17 sz_34 hF rfl rfl rfl rfl hS rfl rfl fun a w hF hS => ?_
     refine step hF (Y.assign hF rfl) rfl fun a hF => ?_
     refine nil (then_n ?_)
     refine seq ?_
     refine region ?_
     refine step hF (Y.loadNL 3 sz_26 hF rfl hS rfl rfl rfl) rfl fun a hF => ?_
     refine step hF (Y.move hF rfl) rfl fun a hF => ?_
     refine step hF (Y.move hF rfl) rfl fun a hF => ?_
     obtain ⟨Dv_2, hlev_2, hs_5, hS⟩ := hS.freezeC (i := 16) (xs := ((([] : List BeatPair) ++ c.Pairs).set (Int.toNat rv_30) (BeatPair.mk e_3.Hour e_3.One e_3.Other rv_31))) rfl hr_8
     replace hs := hs.mono hlev_2
     replace hs_1 := hs_1.mono hlev_2
     replace hs_2 := hs_2.mono hlev_2
     replace hG := hG.mono hlev_2
     replace hcell_5 := fun w hw => hcell_5 w (Stab.on.le hw hlev_2)
     replace hr_6 := hr_6.mono hlev_2
     replace hr_7 := hr_7.mono hlev_2
     replace hr_8 := hr_8.mono hlev_2
     obtain ⟨rv_35, hx_39, h⟩ := bind_some h
     refine O.callP (us := [.agg #[.int .i64 c.Hours, .slice p c.Rates.length c_1, .slice p_1 c.Opens.length c_2, .slice p_8 ((([] : List BeatPair) ++ c.Pairs).set (Int.toNat rv_30) (BeatPair.mk e_3.Hour e_3.One e_3.Other rv_31)).length c_9], .int .i64 rv_32, .int .i64 rv_33]) ca_19 hF hS (beat_Offset_ok hS.stab (BeatCellar.mk c.Hours c.Rates c.Opens ((([] : List BeatPair) ++ c.Pairs).set (Int.toNat rv_30) (BeatPair.mk e_3.Hour e_3.One e_3.Other rv_31))) rv_32 rv_33 hs hs_1 hs_5 hG rv_35 hx_39) rfl rfl fun a w hF hS => ?_
     refine step hF (Y.move hF rfl) rfl fun a hF => ?_
     refine step hF (Y.extract hF rfl rfl) rfl fun a hF => ?_
     refine step hF (Y.extract hF rfl rfl) rfl fun a hF => ?_
     refine O.alloc 18 zc_34 hF hS rfl fun b_23 a w hF hS => ?_
     refine O.store (us := [.int .i64 rv_35.1.Low, .int .i64 rv_35.1.High]) 18 sz_34 hF rfl rfl rfl rfl hS rfl rfl fun a w hF hS => ?_
     refine step hF (Y.assign hF rfl) rfl fun a hF => ?_
     refine nil (then_n ?_)
     refine seq ?_
     refine region ?_
     refine step hF (Y.loadNL 1 sz_26 hF rfl hS rfl rfl rfl) rfl fun a hF => ?_
     refine step hF (Y.move hF rfl) rfl fun a hF => ?_
     refine step hF (Y.move hF rfl) rfl fun a hF => ?_
     obtain ⟨rv_36, hx_40, h⟩ := bind_some h
     refine O.callP (us := [.agg #[.int .i64 c.Hours, .slice p c.Rates.length c_1, .slice p_1 c.Opens.length c_2, .slice p_2 c.Pairs.length c_3], .int .i64 rv_32, .int .i64 0, .int .i64 rv_33]) ca_22 hF hS (beat_Apart_ok hS.stab c rv_32 0 rv_33 hs hs_1 hs_2 hG rv_36 hx_40) rfl rfl fun a w hF hS => ?_
     refine step hF (Y.move hF rfl) rfl fun a hF => ?_
     refine step hF (Y.extract hF rfl rfl) rfl fun a hF => ?_
     refine step hF (Y.extract hF rfl rfl) rfl fun a hF => ?_
     refine O.alloc 19 zc_34 hF hS rfl fun b_24 a w hF hS => ?_
     refine O.store (us := [.int .i64 rv_36.1.Low, .int .i64 rv_36.1.High]) 19 sz_34 hF rfl rfl rfl rfl hS rfl rfl fun a w hF hS => ?_
     refine step hF (Y.assign hF rfl) rfl fun a hF => ?_
     refine nil (then_n ?_)
     refine seq ?_
     refine region ?_
     refine step hF (Y.loadNL 3 sz_26 hF rfl hS rfl rfl rfl) rfl fun a hF => ?_
     refine step hF (Y.move hF rfl) rfl fun a hF => ?_
     refine step hF (Y.move hF rfl) rfl fun a hF => ?_
     obtain ⟨rv_37, hx_41, h⟩ := bind_some h
     refine O.callP (us := [.agg #[.int .i64 c.Hours, .slice p c.Rates.length c_1, .slice p_1 c.Opens.length c_2, .slice p_8 ((([] : List BeatPair) ++ c.Pairs).set (Int.toNat rv_30) (BeatPair.mk e_3.Hour e_3.One e_3.Other rv_31)).length c_9], .int .i64 rv_32, .int .i64 0, .int .i64 rv_33]) ca_22 hF hS (beat_Apart_ok hS.stab (BeatCellar.mk c.Hours c.Rates c.Opens ((([] : List BeatPair) ++ c.Pairs).set (Int.toNat rv_30) (BeatPair.mk e_3.Hour e_3.One e_3.Other rv_31))) rv_32 0 rv_33 hs hs_1 hs_5 hG rv_37 hx_41) rfl rfl fun a w hF hS => ?_
     refine step hF (Y.move hF rfl) rfl fun a hF => ?_
     refine step hF (Y.extract hF rfl rfl) rfl fun a hF => ?_
     refine step hF (Y.extract hF rfl rfl) rfl fun a hF => ?_
     refine O.alloc 20 zc_34 hF hS rfl fun b_25 a w hF hS => ?_
     refine O.store (us := [.int .i64 rv_37.1.Low, .int .i64 rv_37.1.High]) 20 sz_34 hF rfl rfl rfl rfl hS rfl rfl fun a w hF hS => ?_
     refine step hF (Y.assign hF rfl) rfl fun a hF => ?_
     refine nil (then_n ?_)
     refine seq ?_
     refine seq ?_
     refine region ?_
     refine step hF (Y.move hF rfl) rfl fun a hF => ?_
     refine step hF (Y.neq hF rfl rfl) rfl fun a hF => ?_
     refine nil (then_n ?_)
     refine cond_b hF rfl (fun hbv_27 => ?_) (fun hbv_27 => ?_)
     ·replace h := cond_t h hbv_27
      refine seq ?_
      refine region ?_
      refine step hF (Y.move hF rfl) rfl fun a hF => ?_
      refine step hF (Y.eql hF rfl rfl) rfl fun a hF => ?_
      refine step hF (Y.move hF rfl) rfl fun a hF => ?_
      refine join (N := 240) (rs := []) (w0 := w0) (D0 := D0) 4 (us := [(4, .bool false), (14, .pointer (some ⟨b_22, 0, none⟩)), (15, .int .i64 rv_34.2), (16, .pointer (some ⟨b_23, 0, none⟩)), (17, .int .i64 rv_35.2), (18, .pointer (some ⟨b_24, 0, none⟩)), (19, .int .i64 rv_36.2), (20, .pointer (some ⟨b_25, 0, none⟩)), (21, .int .i64 rv_37.2), (199, .bool ((rv_34.2 == 22) && (rv_36.2 == rv_34.2)))]) (ms := [(1, .cells b [.int .i64 c.Hours, .slice p c.Rates.length c_1, .slice p_1 c.Opens.length c_2, .slice p_2 c.Pairs.length c_3] 26), (2, .cells b_1 [.int .i64 n.a0, .int .i64 n.a1, .int .i64 n.a2, .int .i64 n.a3, .int .i64 n.a4] 66), (3, .cells b_2 [.int .i64 c.Hours, .slice p c.Rates.length c_1, .slice p_1 c.Opens.length c_2, .slice p_8 ((([] : List BeatPair) ++ c.Pairs).set (Int.toNat rv_30) (BeatPair.mk e_3.Hour e_3.One e_3.Other rv_31)).length c_9] 26), (15, .cells b_20 [.int .i64 e_3.Hour, .int .i64 e_3.One, .int .i64 e_3.Other, .int .i64 rv_31.Low, .int .i64 rv_31.High] 61), (17, .cells b_22 [.int .i64 rv_34.1.Low, .int .i64 rv_34.1.High] 34), (18, .cells b_23 [.int .i64 rv_35.1.Low, .int .i64 rv_35.1.High] 34), (19, .cells b_24 [.int .i64 rv_36.1.Low, .int .i64 rv_36.1.High] 34), (20, .cells b_25 [.int .i64 rv_37.1.Low, .int .i64 rv_37.1.High] 34)]) (D' := Dv_2) ?_ ?_
      ·rcases bcases (rv_34.2 == 22) with hbv_28 | hbv_28
       ·-- true
        refine guard_on hF rfl rfl hbv_28 ?_
        refine step hF (Y.move hF rfl) rfl fun a hF => ?_
        refine guard_on hF rfl rfl hbv_28 ?_
        refine step hF (Y.move hF rfl) rfl fun a hF => ?_
        refine guard_on hF rfl rfl hbv_28 ?_
        refine step hF (Y.eql hF rfl rfl) rfl fun a hF => ?_
        refine step hF (Y.pick_t hF rfl hbv_28 rfl) rfl fun a hF => ?_
        exact nil (then_n ⟨hF.weak ⟨rfl, rfl, rfl, rfl, rfl, rfl, rfl, rfl, rfl, (by rw [hbv_28]; rfl), trivial⟩, hS.weak ⟨rfl, rfl, rfl, rfl, rfl, rfl, rfl, rfl, trivial⟩⟩)
       ·-- false
        refine guard_off hF rfl rfl hbv_28 rfl fun a hF => ?_
        refine guard_off hF rfl rfl hbv_28 rfl fun a hF => ?_
        refine guard_off hF rfl rfl hbv_28 rfl fun a hF => ?_
        refine step hF (Y.pick_f hF rfl hbv_28 rfl) rfl fun a hF => ?_
        exact nil (then_n ⟨hF.weak ⟨rfl, rfl, rfl, rfl, rfl, rfl, rfl, rfl, rfl, (by rw [hbv_28]; rfl), trivial⟩, hS.weak ⟨rfl, rfl, rfl, rfl, rfl, rfl, rfl, rfl, trivial⟩⟩)
      intro a w hF hS
      refine step hF (Y.move hF rfl) rfl fun a hF => ?_
      refine join (N := 240) (rs := []) (w0 := w0) (D0 := D0) 8 (us := [(4, .bool false), (14, .pointer (some ⟨b_22, 0, none⟩)), (16, .pointer (some ⟨b_23, 0, none⟩)), (17, .int .i64 rv_35.2), (18, .pointer (some ⟨b_24, 0, none⟩)), (19, .int .i64 rv_36.2), (20, .pointer (some ⟨b_25, 0, none⟩)), (21, .int .i64 rv_37.2), (208, .bool (((rv_34.2 == 22) && (rv_36.2 == rv_34.2)) && ((rv_35.2 == 0) || (rv_35.2 == rv_34.2))))]) (ms := [(1, .cells b [.int .i64 c.Hours, .slice p c.Rates.length c_1, .slice p_1 c.Opens.length c_2, .slice p_2 c.Pairs.length c_3] 26), (2, .cells b_1 [.int .i64 n.a0, .int .i64 n.a1, .int .i64 n.a2, .int .i64 n.a3, .int .i64 n.a4] 66), (3, .cells b_2 [.int .i64 c.Hours, .slice p c.Rates.length c_1, .slice p_1 c.Opens.length c_2, .slice p_8 ((([] : List BeatPair) ++ c.Pairs).set (Int.toNat rv_30) (BeatPair.mk e_3.Hour e_3.One e_3.Other rv_31)).length c_9] 26), (15, .cells b_20 [.int .i64 e_3.Hour, .int .i64 e_3.One, .int .i64 e_3.Other, .int .i64 rv_31.Low, .int .i64 rv_31.High] 61), (17, .cells b_22 [.int .i64 rv_34.1.Low, .int .i64 rv_34.1.High] 34), (18, .cells b_23 [.int .i64 rv_35.1.Low, .int .i64 rv_35.1.High] 34), (19, .cells b_24 [.int .i64 rv_36.1.Low, .int .i64 rv_36.1.High] 34), (20, .cells b_25 [.int .i64 rv_37.1.Low, .int .i64 rv_37.1.High] 34)]) (D' := Dv_2) ?_ ?_
      ·rcases bcases ((rv_34.2 == 22) && (rv_36.2 == rv_34.2)) with hbv_29 | hbv_29
       ·-- true
        refine guard_on hF rfl rfl hbv_29 ?_
        refine step hF (Y.move hF rfl) rfl fun a hF => ?_
        refine guard_on hF rfl rfl hbv_29 ?_
        refine step hF (Y.eql hF rfl rfl) rfl fun a hF => ?_
        refine guard_on hF rfl rfl hbv_29 ?_
        refine step hF (Y.move hF rfl) rfl fun a hF => ?_
        refine join (N := 240) (rs := []) (w0 := w0) (D0 := D0) 4 (us := [(4, .bool false), (14, .pointer (some ⟨b_22, 0, none⟩)), (16, .pointer (some ⟨b_23, 0, none⟩)), (17, .int .i64 rv_35.2), (18, .pointer (some ⟨b_24, 0, none⟩)), (19, .int .i64 rv_36.2), (20, .pointer (some ⟨b_25, 0, none⟩)), (21, .int .i64 rv_37.2), (200, .bool ((rv_34.2 == 22) && (rv_36.2 == rv_34.2))), (207, .bool ((rv_35.2 == 0) || (rv_35.2 == rv_34.2)))]) (ms := [(1, .cells b [.int .i64 c.Hours, .slice p c.Rates.length c_1, .slice p_1 c.Opens.length c_2, .slice p_2 c.Pairs.length c_3] 26), (2, .cells b_1 [.int .i64 n.a0, .int .i64 n.a1, .int .i64 n.a2, .int .i64 n.a3, .int .i64 n.a4] 66), (3, .cells b_2 [.int .i64 c.Hours, .slice p c.Rates.length c_1, .slice p_1 c.Opens.length c_2, .slice p_8 ((([] : List BeatPair) ++ c.Pairs).set (Int.toNat rv_30) (BeatPair.mk e_3.Hour e_3.One e_3.Other rv_31)).length c_9] 26), (15, .cells b_20 [.int .i64 e_3.Hour, .int .i64 e_3.One, .int .i64 e_3.Other, .int .i64 rv_31.Low, .int .i64 rv_31.High] 61), (17, .cells b_22 [.int .i64 rv_34.1.Low, .int .i64 rv_34.1.High] 34), (18, .cells b_23 [.int .i64 rv_35.1.Low, .int .i64 rv_35.1.High] 34), (19, .cells b_24 [.int .i64 rv_36.1.Low, .int .i64 rv_36.1.High] 34), (20, .cells b_25 [.int .i64 rv_37.1.Low, .int .i64 rv_37.1.High] 34)]) (D' := Dv_2) ?_ ?_
        ·rcases bcases (rv_35.2 == 0) with hbv_30 | hbv_30
         ·-- true
          refine guard_off hF rfl rfl hbv_30 rfl fun a hF => ?_
          refine guard_off hF rfl rfl hbv_30 rfl fun a hF => ?_
          refine guard_off hF rfl rfl hbv_30 rfl fun a hF => ?_
          refine guard_on hF rfl rfl hbv_29 ?_
          refine step hF (Y.pick_t hF rfl hbv_30 rfl) rfl fun a hF => ?_
          exact nil (then_n ⟨hF.weak ⟨rfl, rfl, rfl, rfl, rfl, rfl, rfl, rfl, rfl, (by rw [hbv_30]; rfl), trivial⟩, hS.weak ⟨rfl, rfl, rfl, rfl, rfl, rfl, rfl, rfl, trivial⟩⟩)
         ·-- false
          refine guard_on hF rfl rfl hbv_30 ?_
          refine step hF (Y.move hF rfl) rfl fun a hF => ?_
          refine guard_on hF rfl rfl hbv_30 ?_
          refine step hF (Y.move hF rfl) rfl fun a hF => ?_
          refine guard_on hF rfl rfl hbv_30 ?_
          refine step hF (Y.eql hF rfl rfl) rfl fun a hF => ?_
          refine guard_on hF rfl rfl hbv_29 ?_
          refine step hF (Y.pick_f hF rfl hbv_30 rfl) rfl fun a hF => ?_
          exact nil (then_n ⟨hF.weak ⟨rfl, rfl, rfl, rfl, rfl, rfl, rfl, rfl, rfl, (by rw [hbv_30]; rfl), trivial⟩, hS.weak ⟨rfl, rfl, rfl, rfl, rfl, rfl, rfl, rfl, trivial⟩⟩)
        intro a w hF hS
        refine step hF (Y.pick_t hF rfl hbv_29 rfl) rfl fun a hF => ?_
        exact nil (then_n ⟨hF.weak ⟨rfl, rfl, rfl, rfl, rfl, rfl, rfl, rfl, (by rw [hbv_29]; rfl), trivial⟩, hS.weak ⟨rfl, rfl, rfl, rfl, rfl, rfl, rfl, rfl, trivial⟩⟩)
       ·-- false
        refine guard_off hF rfl rfl hbv_29 rfl fun a hF => ?_
        refine guard_off hF rfl rfl hbv_29 rfl fun a hF => ?_
        refine guard_off hF rfl rfl hbv_29 rfl fun a hF => ?_
        refine guard_offu hF rfl rfl rfl fun a hF => ?_
        refine guard_offu hF rfl rfl rfl fun a hF => ?_
        refine guard_offu hF rfl rfl rfl fun a hF => ?_
        refine guard_off hF rfl rfl hbv_29 rfl fun a hF => ?_
        refine step hF (Y.pick_f hF rfl hbv_29 rfl) rfl fun a hF => ?_
        exact nil (then_n ⟨hF.weak ⟨rfl, rfl, rfl, rfl, rfl, rfl, rfl, rfl, (by rw [hbv_29]; rfl), trivial⟩, hS.weak ⟨rfl, rfl, rfl, rfl, rfl, rfl, rfl, rfl, trivial⟩⟩)
      intro a w hF hS
      refine step hF (Y.move hF rfl) rfl fun a hF => ?_
      refine join (N := 240) (rs := []) (w0 := w0) (D0 := D0) 4 (us := [(4, .bool false), (14, .pointer (some ⟨b_22, 0, none⟩)), (16, .pointer (some ⟨b_23, 0, none⟩)), (17, .int .i64 rv_35.2), (18, .pointer (some ⟨b_24, 0, none⟩)), (19, .int .i64 rv_36.2), (20, .pointer (some ⟨b_25, 0, none⟩)), (21, .int .i64 rv_37.2), (213, .bool ((((rv_34.2 == 22) && (rv_36.2 == rv_34.2)) && ((rv_35.2 == 0) || (rv_35.2 == rv_34.2))) && (rv_37.2 == rv_35.2)))]) (ms := [(1, .cells b [.int .i64 c.Hours, .slice p c.Rates.length c_1, .slice p_1 c.Opens.length c_2, .slice p_2 c.Pairs.length c_3] 26), (2, .cells b_1 [.int .i64 n.a0, .int .i64 n.a1, .int .i64 n.a2, .int .i64 n.a3, .int .i64 n.a4] 66), (3, .cells b_2 [.int .i64 c.Hours, .slice p c.Rates.length c_1, .slice p_1 c.Opens.length c_2, .slice p_8 ((([] : List BeatPair) ++ c.Pairs).set (Int.toNat rv_30) (BeatPair.mk e_3.Hour e_3.One e_3.Other rv_31)).length c_9] 26), (15, .cells b_20 [.int .i64 e_3.Hour, .int .i64 e_3.One, .int .i64 e_3.Other, .int .i64 rv_31.Low, .int .i64 rv_31.High] 61), (17, .cells b_22 [.int .i64 rv_34.1.Low, .int .i64 rv_34.1.High] 34), (18, .cells b_23 [.int .i64 rv_35.1.Low, .int .i64 rv_35.1.High] 34), (19, .cells b_24 [.int .i64 rv_36.1.Low, .int .i64 rv_36.1.High] 34), (20, .cells b_25 [.int .i64 rv_37.1.Low, .int .i64 rv_37.1.High] 34)]) (D' := Dv_2) ?_ ?_
      ·rcases bcases (((rv_34.2 == 22) && (rv_36.2 == rv_34.2)) && ((rv_35.2 == 0) || (rv_35.2 == rv_34.2))) with hbv_31 | hbv_31
       ·-- true
        refine guard_on hF rfl rfl hbv_31 ?_
        refine step hF (Y.move hF rfl) rfl fun a hF => ?_
        refine guard_on hF rfl rfl hbv_31 ?_
        refine step hF (Y.move hF rfl) rfl fun a hF => ?_
        refine guard_on hF rfl rfl hbv_31 ?_
        refine step hF (Y.eql hF rfl rfl) rfl fun a hF => ?_
        refine step hF (Y.pick_t hF rfl hbv_31 rfl) rfl fun a hF => ?_
        exact nil (then_n ⟨hF.weak ⟨rfl, rfl, rfl, rfl, rfl, rfl, rfl, rfl, (by rw [hbv_31]; rfl), trivial⟩, hS.weak ⟨rfl, rfl, rfl, rfl, rfl, rfl, rfl, rfl, trivial⟩⟩)
       ·-- false
        refine guard_off hF rfl rfl hbv_31 rfl fun a hF => ?_
        refine guard_off hF rfl rfl hbv_31 rfl fun a hF => ?_
        refine guard_off hF rfl rfl hbv_31 rfl fun a hF => ?_
        refine step hF (Y.pick_f hF rfl hbv_31 rfl) rfl fun a hF => ?_
        exact nil (then_n ⟨hF.weak ⟨rfl, rfl, rfl, rfl, rfl, rfl, rfl, rfl, (by rw [hbv_31]; rfl), trivial⟩, hS.weak ⟨rfl, rfl, rfl, rfl, rfl, rfl, rfl, rfl, trivial⟩⟩)
      intro a w hF hS
      refine step hF (Y.move hF rfl) rfl fun a hF => ?_
      obtain ⟨t_8, ht_8, h⟩ := bind_some h
      refine join (N := 240) (rs := []) (w0 := w0) (D0 := D0) 2 (us := [(4, .bool false), (14, .pointer (some ⟨b_22, 0, none⟩)), (16, .pointer (some ⟨b_23, 0, none⟩)), (17, .int .i64 rv_35.2), (18, .pointer (some ⟨b_24, 0, none⟩)), (19, .int .i64 rv_36.2), (20, .pointer (some ⟨b_25, 0, none⟩)), (21, .int .i64 rv_37.2), (216, .bool t_8)]) (ms := [(1, .cells b [.int .i64 c.Hours, .slice p c.Rates.length c_1, .slice p_1 c.Opens.length c_2, .slice p_2 c.Pairs.length c_3] 26), (2, .cells b_1 [.int .i64 n.a0, .int .i64 n.a1, .int .i64 n.a2, .int .i64 n.a3, .int .i64 n.a4] 66), (3, .cells b_2 [.int .i64 c.Hours, .slice p c.Rates.length c_1, .slice p_1 c.Opens.length c_2, .slice p_8 ((([] : List BeatPair) ++ c.Pairs).set (Int.toNat rv_30) (BeatPair.mk e_3.Hour e_3.One e_3.Other rv_31)).length c_9] 26), (15, .cells b_20 [.int .i64 e_3.Hour, .int .i64 e_3.One, .int .i64 e_3.Other, .int .i64 rv_31.Low, .int .i64 rv_31.High] 61), (17, .cells b_22 [.int .i64 rv_34.1.Low, .int .i64 rv_34.1.High] 34), (18, .cells b_23 [.int .i64 rv_35.1.Low, .int .i64 rv_35.1.High] 34), (19, .cells b_24 [.int .i64 rv_36.1.Low, .int .i64 rv_36.1.High] 34), (20, .cells b_25 [.int .i64 rv_37.1.Low, .int .i64 rv_37.1.High] 34)]) (D' := Dv_2) ?_ ?_
      ·rcases bcases ((((rv_34.2 == 22) && (rv_36.2 == rv_34.2)) && ((rv_35.2 == 0) || (rv_35.2 == rv_34.2))) && (rv_37.2 == rv_35.2)) with hbv_32 | hbv_32
       ·-- true
        replace h := cond_t ht_8 hbv_32
        refine guard_on hF rfl rfl hbv_32 ?_
        obtain ⟨rv_38, hx_42, h⟩ := bind_some h
        refine O.callP (us := []) ca_21 hF hS (remontoirlaw02_works_ok hS.stab hG rv_38 hx_42) rfl rfl fun a w hF hS => ?_
        refine step hF (Y.pick_t hF rfl hbv_32 rfl) rfl fun a hF => ?_
        obtain rfl := some_inj h
        exact nil (then_n ⟨hF.weak ⟨rfl, rfl, rfl, rfl, rfl, rfl, rfl, rfl, rfl, trivial⟩, hS.weak ⟨rfl, rfl, rfl, rfl, rfl, rfl, rfl, rfl, trivial⟩⟩)
       ·-- false
        replace h := cond_f ht_8 hbv_32
        refine guard_off hF rfl rfl hbv_32 rfl fun a hF => ?_
        refine step hF (Y.pick_f hF rfl hbv_32 rfl) rfl fun a hF => ?_
        obtain rfl := some_inj h
        exact nil (then_n ⟨hF.weak ⟨rfl, rfl, rfl, rfl, rfl, rfl, rfl, rfl, rfl, trivial⟩, hS.weak ⟨rfl, rfl, rfl, rfl, rfl, rfl, rfl, rfl, trivial⟩⟩)
      intro a w hF hS
      refine step hF (Y.assign hF rfl) rfl fun a hF => ?_
      refine nil (then_n ?_)
      refine ret_ (then_r ?_)
      obtain rfl := some_inj h
      exact leaveP Tryd.results10 hF hS (.cons (.tmp rfl) .nil) .nil rfl
     ·replace h := cond_f h hbv_27
      refine skip_ (then_n ?_)
      refine seq ?_
      refine region ?_
      refine step hF (Y.move hF rfl) rfl fun a hF => ?_
      refine step hF (Y.eql hF rfl rfl) rfl fun a hF => ?_
      refine step hF (Y.move hF rfl) rfl fun a hF => ?_
      refine join (N := 240) (rs := []) (w0 := w0) (D0 := D0) 3 (us := [(4, .bool false), (14, .pointer (some ⟨b_22, 0, none⟩)), (16, .pointer (some ⟨b_23, 0, none⟩)), (18, .pointer (some ⟨b_24, 0, none⟩)), (20, .pointer (some ⟨b_25, 0, none⟩)), (21, .int .i64 rv_37.2), (222, .bool ((rv_35.2 == 0) && (rv_36.2 == 0)))]) (ms := [(1, .cells b [.int .i64 c.Hours, .slice p c.Rates.length c_1, .slice p_1 c.Opens.length c_2, .slice p_2 c.Pairs.length c_3] 26), (2, .cells b_1 [.int .i64 n.a0, .int .i64 n.a1, .int .i64 n.a2, .int .i64 n.a3, .int .i64 n.a4] 66), (3, .cells b_2 [.int .i64 c.Hours, .slice p c.Rates.length c_1, .slice p_1 c.Opens.length c_2, .slice p_8 ((([] : List BeatPair) ++ c.Pairs).set (Int.toNat rv_30) (BeatPair.mk e_3.Hour e_3.One e_3.Other rv_31)).length c_9] 26), (15, .cells b_20 [.int .i64 e_3.Hour, .int .i64 e_3.One, .int .i64 e_3.Other, .int .i64 rv_31.Low, .int .i64 rv_31.High] 61), (17, .cells b_22 [.int .i64 rv_34.1.Low, .int .i64 rv_34.1.High] 34), (18, .cells b_23 [.int .i64 rv_35.1.Low, .int .i64 rv_35.1.High] 34), (19, .cells b_24 [.int .i64 rv_36.1.Low, .int .i64 rv_36.1.High] 34), (20, .cells b_25 [.int .i64 rv_37.1.Low, .int .i64 rv_37.1.High] 34)]) (D' := Dv_2) ?_ ?_
      ·rcases bcases (rv_35.2 == 0) with hbv_33 | hbv_33
       ·-- true
        refine guard_on hF rfl rfl hbv_33 ?_
        refine step hF (Y.move hF rfl) rfl fun a hF => ?_
        refine guard_on hF rfl rfl hbv_33 ?_
        refine step hF (Y.eql hF rfl rfl) rfl fun a hF => ?_
        refine step hF (Y.pick_t hF rfl hbv_33 rfl) rfl fun a hF => ?_
        exact nil (then_n ⟨hF.weak ⟨rfl, rfl, rfl, rfl, rfl, rfl, (by rw [hbv_33]; rfl), trivial⟩, hS.weak ⟨rfl, rfl, rfl, rfl, rfl, rfl, rfl, rfl, trivial⟩⟩)
       ·-- false
        refine guard_off hF rfl rfl hbv_33 rfl fun a hF => ?_
        refine guard_off hF rfl rfl hbv_33 rfl fun a hF => ?_
        refine step hF (Y.pick_f hF rfl hbv_33 rfl) rfl fun a hF => ?_
        exact nil (then_n ⟨hF.weak ⟨rfl, rfl, rfl, rfl, rfl, rfl, (by rw [hbv_33]; rfl), trivial⟩, hS.weak ⟨rfl, rfl, rfl, rfl, rfl, rfl, rfl, rfl, trivial⟩⟩)
      intro a w hF hS
      refine step hF (Y.move hF rfl) rfl fun a hF => ?_
      refine join (N := 240) (rs := []) (w0 := w0) (D0 := D0) 3 (us := [(4, .bool false), (14, .pointer (some ⟨b_22, 0, none⟩)), (16, .pointer (some ⟨b_23, 0, none⟩)), (18, .pointer (some ⟨b_24, 0, none⟩)), (20, .pointer (some ⟨b_25, 0, none⟩)), (226, .bool (((rv_35.2 == 0) && (rv_36.2 == 0)) && (rv_37.2 == 0)))]) (ms := [(1, .cells b [.int .i64 c.Hours, .slice p c.Rates.length c_1, .slice p_1 c.Opens.length c_2, .slice p_2 c.Pairs.length c_3] 26), (2, .cells b_1 [.int .i64 n.a0, .int .i64 n.a1, .int .i64 n.a2, .int .i64 n.a3, .int .i64 n.a4] 66), (3, .cells b_2 [.int .i64 c.Hours, .slice p c.Rates.length c_1, .slice p_1 c.Opens.length c_2, .slice p_8 ((([] : List BeatPair) ++ c.Pairs).set (Int.toNat rv_30) (BeatPair.mk e_3.Hour e_3.One e_3.Other rv_31)).length c_9] 26), (15, .cells b_20 [.int .i64 e_3.Hour, .int .i64 e_3.One, .int .i64 e_3.Other, .int .i64 rv_31.Low, .int .i64 rv_31.High] 61), (17, .cells b_22 [.int .i64 rv_34.1.Low, .int .i64 rv_34.1.High] 34), (18, .cells b_23 [.int .i64 rv_35.1.Low, .int .i64 rv_35.1.High] 34), (19, .cells b_24 [.int .i64 rv_36.1.Low, .int .i64 rv_36.1.High] 34), (20, .cells b_25 [.int .i64 rv_37.1.Low, .int .i64 rv_37.1.High] 34)]) (D' := Dv_2) ?_ ?_
      ·rcases bcases ((rv_35.2 == 0) && (rv_36.2 == 0)) with hbv_34 | hbv_34
       ·-- true
        refine guard_on hF rfl rfl hbv_34 ?_
        refine step hF (Y.move hF rfl) rfl fun a hF => ?_
        refine guard_on hF rfl rfl hbv_34 ?_
        refine step hF (Y.eql hF rfl rfl) rfl fun a hF => ?_
        refine step hF (Y.pick_t hF rfl hbv_34 rfl) rfl fun a hF => ?_
        exact nil (then_n ⟨hF.weak ⟨rfl, rfl, rfl, rfl, rfl, (by rw [hbv_34]; rfl), trivial⟩, hS.weak ⟨rfl, rfl, rfl, rfl, rfl, rfl, rfl, rfl, trivial⟩⟩)
       ·-- false
        refine guard_off hF rfl rfl hbv_34 rfl fun a hF => ?_
        refine guard_off hF rfl rfl hbv_34 rfl fun a hF => ?_
        refine step hF (Y.pick_f hF rfl hbv_34 rfl) rfl fun a hF => ?_
        exact nil (then_n ⟨hF.weak ⟨rfl, rfl, rfl, rfl, rfl, (by rw [hbv_34]; rfl), trivial⟩, hS.weak ⟨rfl, rfl, rfl, rfl, rfl, rfl, rfl, rfl, trivial⟩⟩)
      intro a w hF hS
      refine step hF (Y.move hF rfl) rfl fun a hF => ?_
      obtain ⟨t_9, ht_9, h⟩ := bind_some h
      refine join (N := 240) (rs := []) (w0 := w0) (D0 := D0) 4 (us := [(4, .bool false), (18, .pointer (some ⟨b_24, 0, none⟩)), (20, .pointer (some ⟨b_25, 0, none⟩)), (231, .bool t_9)]) (ms := [(1, .cells b [.int .i64 c.Hours, .slice p c.Rates.length c_1, .slice p_1 c.Opens.length c_2, .slice p_2 c.Pairs.length c_3] 26), (2, .cells b_1 [.int .i64 n.a0, .int .i64 n.a1, .int .i64 n.a2, .int .i64 n.a3, .int .i64 n.a4] 66), (3, .cells b_2 [.int .i64 c.Hours, .slice p c.Rates.length c_1, .slice p_1 c.Opens.length c_2, .slice p_8 ((([] : List BeatPair) ++ c.Pairs).set (Int.toNat rv_30) (BeatPair.mk e_3.Hour e_3.One e_3.Other rv_31)).length c_9] 26), (15, .cells b_20 [.int .i64 e_3.Hour, .int .i64 e_3.One, .int .i64 e_3.Other, .int .i64 rv_31.Low, .int .i64 rv_31.High] 61), (17, .cells b_22 [.int .i64 rv_34.1.Low, .int .i64 rv_34.1.High] 34), (18, .cells b_23 [.int .i64 rv_35.1.Low, .int .i64 rv_35.1.High] 34), (19, .cells b_24 [.int .i64 rv_36.1.Low, .int .i64 rv_36.1.High] 34), (20, .cells b_25 [.int .i64 rv_37.1.Low, .int .i64 rv_37.1.High] 34)]) (D' := Dv_2) ?_ ?_
      ·rcases bcases (((rv_35.2 == 0) && (rv_36.2 == 0)) && (rv_37.2 == 0)) with hbv_35 | hbv_35
       ·-- true
        replace h := cond_t ht_9 hbv_35
        refine guard_on hF rfl rfl hbv_35 ?_
        refine step hF (Y.loadNL 17 sz_34 hF rfl hS rfl rfl rfl) rfl fun a hF => ?_
        refine guard_on hF rfl rfl hbv_35 ?_
        refine step hF (Y.loadNL 18 sz_34 hF rfl hS rfl rfl rfl) rfl fun a hF => ?_
        refine guard_on hF rfl rfl hbv_35 ?_
        obtain ⟨rv_39, hx_43, h⟩ := bind_some h
        refine O.callP (us := [.agg #[.int .i64 rv_34.1.Low, .int .i64 rv_34.1.High], .agg #[.int .i64 rv_35.1.Low, .int .i64 rv_35.1.High]]) ca_36 hF hS (remontoirref00_Within_ok hS.stab rv_34.1 rv_35.1 rv_39 hx_43) rfl rfl fun a w hF hS => ?_
        refine step hF (Y.pick_t hF rfl hbv_35 rfl) rfl fun a hF => ?_
        obtain rfl := some_inj h
        exact nil (then_n ⟨hF.weak ⟨rfl, rfl, rfl, rfl, trivial⟩, hS.weak ⟨rfl, rfl, rfl, rfl, rfl, rfl, rfl, rfl, trivial⟩⟩)
       ·-- false
        replace h := cond_f ht_9 hbv_35
        refine guard_off hF rfl rfl hbv_35 rfl fun a hF => ?_
        refine guard_off hF rfl rfl hbv_35 rfl fun a hF => ?_
        refine guard_off hF rfl rfl hbv_35 rfl fun a hF => ?_
        refine step hF (Y.pick_f hF rfl hbv_35 rfl) rfl fun a hF => ?_
        obtain rfl := some_inj h
        exact nil (then_n ⟨hF.weak ⟨rfl, rfl, rfl, rfl, trivial⟩, hS.weak ⟨rfl, rfl, rfl, rfl, rfl, rfl, rfl, rfl, trivial⟩⟩)
      intro a w hF hS
      refine step hF (Y.move hF rfl) rfl fun a hF => ?_
      obtain ⟨t_10, ht_10, h⟩ := bind_some h
      refine join (N := 240) (rs := []) (w0 := w0) (D0 := D0) 4 (us := [(4, .bool false), (236, .bool t_10)]) (ms := [(1, .cells b [.int .i64 c.Hours, .slice p c.Rates.length c_1, .slice p_1 c.Opens.length c_2, .slice p_2 c.Pairs.length c_3] 26), (2, .cells b_1 [.int .i64 n.a0, .int .i64 n.a1, .int .i64 n.a2, .int .i64 n.a3, .int .i64 n.a4] 66), (3, .cells b_2 [.int .i64 c.Hours, .slice p c.Rates.length c_1, .slice p_1 c.Opens.length c_2, .slice p_8 ((([] : List BeatPair) ++ c.Pairs).set (Int.toNat rv_30) (BeatPair.mk e_3.Hour e_3.One e_3.Other rv_31)).length c_9] 26), (15, .cells b_20 [.int .i64 e_3.Hour, .int .i64 e_3.One, .int .i64 e_3.Other, .int .i64 rv_31.Low, .int .i64 rv_31.High] 61), (17, .cells b_22 [.int .i64 rv_34.1.Low, .int .i64 rv_34.1.High] 34), (18, .cells b_23 [.int .i64 rv_35.1.Low, .int .i64 rv_35.1.High] 34), (19, .cells b_24 [.int .i64 rv_36.1.Low, .int .i64 rv_36.1.High] 34), (20, .cells b_25 [.int .i64 rv_37.1.Low, .int .i64 rv_37.1.High] 34)]) (D' := Dv_2) ?_ ?_
      ·rcases bcases t_9 with hbv_36 | hbv_36
       ·-- true
        replace h := cond_t ht_10 hbv_36
        refine guard_on hF rfl rfl hbv_36 ?_
        refine step hF (Y.loadNL 19 sz_34 hF rfl hS rfl rfl rfl) rfl fun a hF => ?_
        refine guard_on hF rfl rfl hbv_36 ?_
        refine step hF (Y.loadNL 20 sz_34 hF rfl hS rfl rfl rfl) rfl fun a hF => ?_
        refine guard_on hF rfl rfl hbv_36 ?_
        obtain ⟨rv_40, hx_44, h⟩ := bind_some h
        refine O.callP (us := [.agg #[.int .i64 rv_36.1.Low, .int .i64 rv_36.1.High], .agg #[.int .i64 rv_37.1.Low, .int .i64 rv_37.1.High]]) ca_36 hF hS (remontoirref00_Within_ok hS.stab rv_36.1 rv_37.1 rv_40 hx_44) rfl rfl fun a w hF hS => ?_
        refine step hF (Y.pick_t hF rfl hbv_36 rfl) rfl fun a hF => ?_
        obtain rfl := some_inj h
        exact nil (then_n ⟨hF.weak ⟨rfl, rfl, trivial⟩, hS.weak ⟨rfl, rfl, rfl, rfl, rfl, rfl, rfl, rfl, trivial⟩⟩)
       ·-- false
        replace h := cond_f ht_10 hbv_36
        refine guard_off hF rfl rfl hbv_36 rfl fun a hF => ?_
        refine guard_off hF rfl rfl hbv_36 rfl fun a hF => ?_
        refine guard_off hF rfl rfl hbv_36 rfl fun a hF => ?_
        refine step hF (Y.pick_f hF rfl hbv_36 rfl) rfl fun a hF => ?_
        obtain rfl := some_inj h
        exact nil (then_n ⟨hF.weak ⟨rfl, rfl, trivial⟩, hS.weak ⟨rfl, rfl, rfl, rfl, rfl, rfl, rfl, rfl, trivial⟩⟩)
      intro a w hF hS
      refine step hF (Y.move hF rfl) rfl fun a hF => ?_
      obtain ⟨t_11, ht_11, h⟩ := bind_some h
      refine join (N := 240) (rs := []) (w0 := w0) (D0 := D0) 2 (us := [(4, .bool false), (239, .bool t_11)]) (ms := [(1, .cells b [.int .i64 c.Hours, .slice p c.Rates.length c_1, .slice p_1 c.Opens.length c_2, .slice p_2 c.Pairs.length c_3] 26), (2, .cells b_1 [.int .i64 n.a0, .int .i64 n.a1, .int .i64 n.a2, .int .i64 n.a3, .int .i64 n.a4] 66), (3, .cells b_2 [.int .i64 c.Hours, .slice p c.Rates.length c_1, .slice p_1 c.Opens.length c_2, .slice p_8 ((([] : List BeatPair) ++ c.Pairs).set (Int.toNat rv_30) (BeatPair.mk e_3.Hour e_3.One e_3.Other rv_31)).length c_9] 26), (15, .cells b_20 [.int .i64 e_3.Hour, .int .i64 e_3.One, .int .i64 e_3.Other, .int .i64 rv_31.Low, .int .i64 rv_31.High] 61), (17, .cells b_22 [.int .i64 rv_34.1.Low, .int .i64 rv_34.1.High] 34), (18, .cells b_23 [.int .i64 rv_35.1.Low, .int .i64 rv_35.1.High] 34), (19, .cells b_24 [.int .i64 rv_36.1.Low, .int .i64 rv_36.1.High] 34), (20, .cells b_25 [.int .i64 rv_37.1.Low, .int .i64 rv_37.1.High] 34)]) (D' := Dv_2) ?_ ?_
      ·rcases bcases t_10 with hbv_37 | hbv_37
       ·-- true
        replace h := cond_t ht_11 hbv_37
        refine guard_on hF rfl rfl hbv_37 ?_
        obtain ⟨rv_41, hx_45, h⟩ := bind_some h
        refine O.callP (us := []) ca_21 hF hS (remontoirlaw02_works_ok hS.stab hG rv_41 hx_45) rfl rfl fun a w hF hS => ?_
        refine step hF (Y.pick_t hF rfl hbv_37 rfl) rfl fun a hF => ?_
        obtain rfl := some_inj h
        exact nil (then_n ⟨hF.weak ⟨rfl, rfl, trivial⟩, hS.weak ⟨rfl, rfl, rfl, rfl, rfl, rfl, rfl, rfl, trivial⟩⟩)
       ·-- false
        replace h := cond_f ht_11 hbv_37
        refine guard_off hF rfl rfl hbv_37 rfl fun a hF => ?_
        refine step hF (Y.pick_f hF rfl hbv_37 rfl) rfl fun a hF => ?_
        obtain rfl := some_inj h
        exact nil (then_n ⟨hF.weak ⟨rfl, rfl, trivial⟩, hS.weak ⟨rfl, rfl, rfl, rfl, rfl, rfl, rfl, rfl, trivial⟩⟩)
      intro a w hF hS
      refine step hF (Y.assign hF rfl) rfl fun a hF => ?_
      refine nil (then_n ?_)
      refine ret_ ?_
      obtain rfl := some_inj h
      exact leaveP Tryd.results10 hF hS (.cons (.tmp rfl) .nil) .nil rfl

end Go.Proofs.YtpniidbbbhbglaaDoor.Rt
