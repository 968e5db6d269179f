/- Walks of the functions of this seat: what each Go function comes to, as a Lean function, and the proof. A law. Under no conditions. -/
import Derived.Test.YtpniidbbbhbglaaDoorWSZ
set_option linter.unusedVariables false
set_option linter.unusedSimpArgs false
set_option maxRecDepth 100000
set_option maxHeartbeats 4000000
namespace Go.Proofs.YtpniidbbbhbglaaDoor.Rt
open Go Go.RowKit
noncomputable def remontoirlaw02_BeatTurned (c : BeatCellar) (n : Arr3) (m : Arr3) : Option Bool :=
  (remontoirlaw02_sound c).bind fun rv =>
  cond (!rv)
  ((remontoirlaw02_works).bind fun rv_1 =>
  some rv_1)
  ((remontoirref00_Rest n.a0 (c.Rates.length : Int)).bind fun rv_2 =>
  (remontoirref00_Rest n.a1 (c.Rates.length : Int)).bind fun rv_3 =>
  (remontoirref00_Rest n.a2 (c.Rates.length : Int)).bind fun rv_4 =>
  (remontoirref00_Rest m.a0 (wr (c.Hours + 1))).bind fun rv_5 =>
  (remontoirref00_Rest m.a1 (wr (c.Hours + 1))).bind fun rv_6 =>
  (remontoirref00_Rest m.a2 (wr (c.Hours + 1))).bind fun rv_7 =>
  (beat_Offset c rv_2 rv_5).bind fun rv_8 =>
  (beat_Offset c rv_3 rv_5).bind fun rv_9 =>
  cond (rv_8.2 != 0)
  ((cond ((rv_8.2 == 22) && (rv_9.2 == rv_8.2)) ((remontoirlaw02_works).bind fun rv_10 =>
  some rv_10) (some false)).bind fun t =>
  some t)
  ((beat_Apart c rv_2 rv_3 rv_5).bind fun rv_11 =>
  (beat_Apart c rv_3 rv_2 rv_5).bind fun rv_12 =>
  (beat_Apart c rv_2 rv_4 rv_5).bind fun rv_13 =>
  (beat_Apart c rv_4 rv_3 rv_5).bind fun rv_14 =>
  (cond (rv_9.2 != 0) (some true) (some (rv_11.2 != 0))).bind fun t_1 =>
  (cond t_1 (some true) (some (rv_12.2 != 0))).bind fun t_2 =>
  (cond t_2 (some true) (some (rv_13.2 != 0))).bind fun t_3 =>
  (cond t_3 (some true) (some (rv_14.2 != 0))).bind fun t_4 =>
  (cond t_4 (some true) ((remontoirref00_To (wr (0 - rv_11.1.High)) (wr (0 - rv_11.1.Low))).bind fun rv_15 =>
  some (!([rv_12.1.Low, rv_12.1.High] == [rv_15.Low, rv_15.High])))).bind fun t_5 =>
  (cond t_5 (some true) ((remontoirref00_To (wr (rv_8.1.Low - rv_9.1.High)) (wr (rv_8.1.High - rv_9.1.Low))).bind fun rv_16 =>
  (remontoirref00_Within rv_11.1 rv_16).bind fun rv_17 =>
  some (!rv_17))).bind fun t_6 =>
  (cond t_6 (some true) ((remontoirref00_To (wr (rv_13.1.Low + rv_14.1.Low)) (wr (rv_13.1.High + rv_14.1.High))).bind fun rv_18 =>
  (remontoirref00_Within rv_11.1 rv_18).bind fun rv_19 =>
  some (!rv_19))).bind fun t_7 =>
  (cond t_7 (some true) ((cond (rv_2 == rv_3) ((remontoirref00_To 0 0).bind fun rv_20 =>
  some (!([rv_11.1.Low, rv_11.1.High] == [rv_20.Low, rv_20.High]))) (some false)).bind fun t_8 =>
  some t_8)).bind fun t_9 =>
  cond t_9
  (some false)
  ((beat_Drift c rv_2 rv_5 rv_6).bind fun rv_21 =>
  (beat_Drift c rv_2 rv_6 rv_5).bind fun rv_22 =>
  (beat_Drift c rv_2 rv_5 rv_7).bind fun rv_23 =>
  (beat_Drift c rv_2 rv_7 rv_6).bind fun rv_24 =>
  (beat_Offset c rv_2 rv_6).bind fun rv_25 =>
  (cond (rv_21.2 == 0) (some (rv_22.2 == 0)) (some false)).bind fun t_10 =>
  (cond t_10 (some (rv_23.2 == 0)) (some false)).bind fun t_11 =>
  (cond t_11 (some (rv_24.2 == 0)) (some false)).bind fun t_12 =>
  (cond t_12 (some (rv_25.2 == 0)) (some false)).bind fun t_13 =>
  (cond t_13 ((remontoirref00_To (wr (0 - rv_21.1.High)) (wr (0 - rv_21.1.Low))).bind fun rv_26 =>
  some ([rv_22.1.Low, rv_22.1.High] == [rv_26.Low, rv_26.High])) (some false)).bind fun t_14 =>
  (cond t_14 ((remontoirref00_To (wr (rv_25.1.Low - rv_8.1.High)) (wr (rv_25.1.High - rv_8.1.Low))).bind fun rv_27 =>
  (remontoirref00_Within rv_21.1 rv_27).bind fun rv_28 =>
  some rv_28) (some false)).bind fun t_15 =>
  (cond t_15 ((remontoirref00_To (wr (rv_23.1.Low + rv_24.1.Low)) (wr (rv_23.1.High + rv_24.1.High))).bind fun rv_29 =>
  (remontoirref00_Within rv_21.1 rv_29).bind fun rv_30 =>
  some rv_30) (some false)).bind fun t_16 =>
  (cond t_16 ((cond (rv_5 != rv_6) (some true) ((remontoirref00_To 0 0).bind fun rv_31 =>
  some ([rv_21.1.Low, rv_21.1.High] == [rv_31.Low, rv_31.High]))).bind fun t_17 =>
  some t_17) (some false)).bind fun t_18 =>
  (cond t_18 ((remontoirlaw02_works).bind fun rv_32 =>
  some rv_32) (some false)).bind fun t_19 =>
  some t_19)))
theorem remontoirlaw02_BeatTurned_ok {w0 : World} {D0 : Stab} (hD : D0.on w0) (c : BeatCellar) (n : Arr3) (m : Arr3) {p : Option Addr} {c_1 : Nat} {p_1 : Option Addr} {c_2 : Nat} {p_2 : Option Addr} {c_3 : Nat} (hs : SRc C_Span D0 c.Rates p c_1) (hs_1 : SRc C_BeatOpen D0 c.Opens p_1 c_2) (hs_2 : SRc C_BeatPair D0 c.Pairs p_2 c_3) (hG : Glob D0) (out : Bool) (h : remontoirlaw02_BeatTurned c n m = some out) : Calls Tryd.prog 11 [.agg #[.int .i64 c.Hours, .slice p c.Rates.length c_1, .slice p_1 c.Opens.length c_2, .slice p_2 c.Pairs.length c_3], .agg #[.int .i64 n.a0, .int .i64 n.a1, .int .i64 n.a2], .agg #[.int .i64 m.a0, .int .i64 m.a1, .int .i64 m.a2]].toArray w0 (RetP D0 w0 (.bool out)) := by
 refine enter _ 306 Tryd.func11 rfl Tryd.ntmps11 rfl fun a hF => ?_
 replace hF : Frm 306 [] [(0, .agg #[.int .i64 c.Hours, .slice p c.Rates.length c_1, .slice p_1 c.Opens.length c_2, .slice p_2 c.Pairs.length c_3]), (1, .agg #[.int .i64 n.a0, .int .i64 n.a1, .int .i64 n.a2]), (2, .agg #[.int .i64 m.a0, .int .i64 m.a1, .int .i64 m.a2])] a := hF
 have hS := St.start hD
 unfold remontoirlaw02_BeatTurned at h
 refine seq ?_
 refine region ?_
 refine O.box (cs := [.int .i64 c.Hours, .slice p c.Rates.length c_1, .slice p_1 c.Opens.length c_2, .slice p_2 c.Pairs.length c_3]) 1 hF rfl rfl hS rfl fun b a w hF hS => ?_
 refine O.box (cs := [.int .i64 n.a0, .int .i64 n.a1, .int .i64 n.a2]) 2 hF rfl rfl hS rfl fun b_1 a w hF hS => ?_
 refine O.box (cs := [.int .i64 m.a0, .int .i64 m.a1, .int .i64 m.a2]) 3 hF rfl rfl hS rfl fun b_2 a w hF hS => ?_
 refine step hF (Y.assign hF rfl) rfl fun a hF => ?_
 refine nil (then_n ?_)
 refine seq ?_
 refine seq ?_
 refine region ?_
 refine step hF (Y.loadNL 1 sz_26 hF rfl hS rfl rfl rfl) rfl fun a hF => ?_
 obtain ⟨rv, hx, h⟩ := bind_some h
 refine O.callP (us := [.agg #[.int .i64 c.Hours, .slice p c.Rates.length c_1, .slice p_1 c.Opens.length c_2, .slice p_2 c.Pairs.length c_3]]) ca_32 hF hS (remontoirlaw02_sound_ok hS.stab c hs hs_1 hs_2 rv hx) rfl rfl fun a w hF hS => ?_
 refine step hF (Y.not hF rfl) rfl fun a hF => ?_
 refine nil (then_n ?_)
 refine cond_b hF rfl (fun hbv => ?_) (fun hbv => ?_)
 ·replace h := cond_t h hbv
  refine seq ?_
  refine region ?_
  obtain ⟨rv_1, hx_1, h⟩ := bind_some h
  refine O.callP (us := []) ca_21 hF hS (remontoirlaw02_works_ok hS.stab hG rv_1 hx_1) rfl rfl fun a w hF hS => ?_
  refine step hF (Y.assign hF rfl) rfl fun a hF => ?_
  refine nil (then_n ?_)
  refine ret_ (then_r ?_)
  obtain rfl := some_inj h
  exact leaveP Tryd.results11 hF hS (.cons (.tmp rfl) .nil) .nil rfl
 ·as_aux_lemma =>
   replace h := cond_f h hbv
   refine skip_ (then_n ?_)
   refine seq ?_
   obtain ⟨rv_2, hx_2, h⟩ := bind_some h
   obtain ⟨rv_3, hx_3, h⟩ := bind_some h
   refine drawsV 17 (.flt 0 (.flt 1 (.flt 2 (.flt 3 (.flt 4 (.flt 6 (.flt 7 (.flt 8 (.flt 9 (.flt 10 (.flt 12 (.flt 13 (.flt 14 (.flt 15 (.flt 16 (.alt 5 (.alt 11 .done .stop) .stop)))))))))))))))) mixed_ (by kernel_rfl) (fun w => St w0 D0 D0 [(1, .cells b [.int .i64 c.Hours, .slice p c.Rates.length c_1, .slice p_1 c.Opens.length c_2, .slice p_2 c.Pairs.length c_3] 26), (2, .cells b_1 [.int .i64 n.a0, .int .i64 n.a1, .int .i64 n.a2] 39), (3, .cells b_2 [.int .i64 m.a0, .int .i64 m.a1, .int .i64 m.a2] 39)] w) (fun a w => Frm 306 [] [(3, .pointer (some ⟨b, 0, none⟩)), (5, .pointer (some ⟨b_2, 0, none⟩)), (6, .bool false), (35, .int .i64 rv_2), (41, .int .i64 rv_3), (43, .int .i64 n.a2), (46, .int .i64 (c.Rates.length : Int))] a ∧ St w0 D0 D0 [(1, .cells b [.int .i64 c.Hours, .slice p c.Rates.length c_1, .slice p_1 c.Opens.length c_2, .slice p_2 c.Pairs.length c_3] 26), (2, .cells b_1 [.int .i64 n.a0, .int .i64 n.a1, .int .i64 n.a2] 39), (3, .cells b_2 [.int .i64 m.a0, .int .i64 m.a1, .int .i64 m.a2] 39)] w) (hS.weak (ms := [(1, .cells b [.int .i64 c.Hours, .slice p c.Rates.length c_1, .slice p_1 c.Opens.length c_2, .slice p_2 c.Pairs.length c_3] 26), (2, .cells b_1 [.int .i64 n.a0, .int .i64 n.a1, .int .i64 n.a2] 39), (3, .cells b_2 [.int .i64 m.a0, .int .i64 m.a1, .int .i64 m.a2] 39)]) ⟨rfl, rfl, rfl, trivial⟩).drew (fun _ _ _ _ h => h) ?_ ?_
   ·replace hS := hS.drew
    have hle0 := hS.le
    refine stepV (i := 0) rfl hF (fun w hS => Y.indexArr u_39 sz_3 hF rfl rfl (by decide) (by decide)) rfl fun a hF => ?_
    refine stepV (i := 1) rfl hF (fun w hS => Y.load1L 2 sz_3 hF rfl hS rfl rfl) rfl fun a hF => ?_
    refine stepV (i := 2) rfl hF (fun w hS => Y.fieldAddr fo_26_1 hF rfl) rfl fun a hF => ?_
    refine stepV (i := 3) rfl hF (fun w hS => Y.load1L 1 sz_22 hF rfl hS rfl rfl) rfl fun a hF => ?_
    refine stepV (i := 4) rfl hF (fun w hS => Y.lenSl u_22 hF rfl) rfl fun a hF => ?_
    refine stepV (i := 6) rfl hF (fun w hS => Y.indexArr u_39 sz_3 hF rfl rfl (by decide) (by decide)) rfl fun a hF => ?_
    refine stepV (i := 7) rfl hF (fun w hS => Y.load1L 2 sz_3 hF rfl hS rfl rfl) rfl fun a hF => ?_
    refine stepV (i := 8) rfl hF (fun w hS => Y.fieldAddr fo_26_1 hF rfl) rfl fun a hF => ?_
    refine stepV (i := 9) rfl hF (fun w hS => Y.load1L 1 sz_22 hF rfl hS rfl rfl) rfl fun a hF => ?_
    refine stepV (i := 10) rfl hF (fun w hS => Y.lenSl u_22 hF rfl) rfl fun a hF => ?_
    refine stepV (i := 12) rfl hF (fun w hS => Y.indexArr u_39 sz_3 hF rfl rfl (by decide) (by decide)) rfl fun a hF => ?_
    refine stepV (i := 13) rfl hF (fun w hS => Y.load1L 2 sz_3 hF rfl hS rfl rfl) rfl fun a hF => ?_
    refine stepV (i := 14) rfl hF (fun w hS => Y.fieldAddr fo_26_1 hF rfl) rfl fun a hF => ?_
    refine stepV (i := 15) rfl hF (fun w hS => Y.load1L 1 sz_22 hF rfl hS rfl rfl) rfl fun a hF => ?_
    refine stepV (i := 16) rfl hF (fun w hS => Y.lenSl u_22 hF rfl) rfl fun a hF => ?_
    refine oneV (i := 5) rfl ?_ trivial
    refine O.callP (us := [.int .i64 n.a0, .int .i64 (c.Rates.length : Int)]) ca_34 hF hS (remontoirref00_Rest_ok hS.stab n.a0 (c.Rates.length : Int) rv_2 hx_2) rfl rfl fun a w hF hS => ?_
    refine nil (then_n ⟨hS.weak ⟨rfl, rfl, rfl, trivial⟩, ?_⟩)
    refine oneV (i := 11) rfl ?_ trivial
    refine O.callP (us := [.int .i64 n.a1, .int .i64 (c.Rates.length : Int)]) ca_34 hF hS (remontoirref00_Rest_ok hS.stab n.a1 (c.Rates.length : Int) rv_3 hx_3) rfl rfl fun a w hF hS => ?_
    refine nil (then_n ⟨hS.weak ⟨rfl, rfl, rfl, trivial⟩, ?_⟩)
    exact toTailV ⟨hF.weak ⟨rfl, rfl, rfl, rfl, rfl, rfl, rfl, trivial⟩, hS.weak ⟨rfl, rfl, rfl, trivial⟩⟩
   rintro a w ⟨hF, hS⟩
   obtain ⟨rv_4, hx_4, h⟩ := bind_some h
   refine O.callP (us := [.int .i64 n.a2, .int .i64 (c.Rates.length : Int)]) ca_34 hF hS (remontoirref00_Rest_ok hS.stab n.a2 (c.Rates.length : Int) rv_4 hx_4) rfl rfl fun a w hF hS => ?_
   refine step hF (Y.assign hF rfl) rfl fun a hF => ?_
   refine step hF (Y.assign hF rfl) rfl fun a hF => ?_
   refine step hF (Y.assign hF rfl) rfl fun a hF => ?_
   refine nil (then_n ?_)
   refine seq ?_
   obtain ⟨rv_5, hx_5, h⟩ := bind_some h
   obtain ⟨rv_6, hx_6, h⟩ := bind_some h
   refine drawsV 17 (.flt 0 (.flt 1 (.flt 2 (.flt 3 (.flt 4 (.flt 6 (.flt 7 (.flt 8 (.flt 9 (.flt 10 (.flt 12 (.flt 13 (.flt 14 (.flt 15 (.flt 16 (.alt 5 (.alt 11 .done .stop) .stop)))))))))))))))) mixed_ (by kernel_rfl) (fun w => St w0 D0 D0 [(1, .cells b [.int .i64 c.Hours, .slice p c.Rates.length c_1, .slice p_1 c.Opens.length c_2, .slice p_2 c.Pairs.length c_3] 26), (2, .cells b_1 [.int .i64 n.a0, .int .i64 n.a1, .int .i64 n.a2] 39), (3, .cells b_2 [.int .i64 m.a0, .int .i64 m.a1, .int .i64 m.a2] 39)] w) (fun a w => Frm 306 [] [(3, .pointer (some ⟨b, 0, none⟩)), (6, .bool false), (7, .int .i64 rv_2), (8, .int .i64 rv_3), (9, .int .i64 rv_4), (53, .int .i64 rv_5), (59, .int .i64 rv_6), (61, .int .i64 m.a2), (64, .int .i64 (wr (c.Hours + 1)))] a ∧ St w0 D0 D0 [(1, .cells b [.int .i64 c.Hours, .slice p c.Rates.length c_1, .slice p_1 c.Opens.length c_2, .slice p_2 c.Pairs.length c_3] 26), (2, .cells b_1 [.int .i64 n.a0, .int .i64 n.a1, .int .i64 n.a2] 39), (3, .cells b_2 [.int .i64 m.a0, .int .i64 m.a1, .int .i64 m.a2] 39)] w) (hS.weak (ms := [(1, .cells b [.int .i64 c.Hours, .slice p c.Rates.length c_1, .slice p_1 c.Opens.length c_2, .slice p_2 c.Pairs.length c_3] 26), (2, .cells b_1 [.int .i64 n.a0, .int .i64 n.a1, .int .i64 n.a2] 39), (3, .cells b_2 [.int .i64 m.a0, .int .i64 m.a1, .int .i64 m.a2] 39)]) ⟨rfl, rfl, rfl, trivial⟩).drew (fun _ _ _ _ h => h) ?_ ?_
   ·replace hS := hS.drew
    have hle0 := hS.le
    refine stepV (i := 0) rfl hF (fun w hS => Y.indexArr u_39 sz_3 hF rfl rfl (by decide) (by decide)) rfl fun a hF => ?_
    refine stepV (i := 1) rfl hF (fun w hS => Y.load1L 3 sz_3 hF rfl hS rfl rfl) rfl fun a hF => ?_
    refine stepV (i := 2) rfl hF (fun w hS => Y.fieldAddr fo_26_0 hF rfl) rfl fun a hF => ?_
    refine stepV (i := 3) rfl hF (fun w hS => Y.load1L 1 sz_3 hF rfl hS rfl rfl) rfl fun a hF => ?_
    refine stepV (i := 4) rfl hF (fun w hS => Y.add hF rfl rfl) rfl fun a hF => ?_
    refine stepV (i := 6) rfl hF (fun w hS => Y.indexArr u_39 sz_3 hF rfl rfl (by decide) (by decide)) rfl fun a hF => ?_
    refine stepV (i := 7) rfl hF (fun w hS => Y.load1L 3 sz_3 hF rfl hS rfl rfl) rfl fun a hF => ?_
    refine stepV (i := 8) rfl hF (fun w hS => Y.fieldAddr fo_26_0 hF rfl) rfl fun a hF => ?_
    refine stepV (i := 9) rfl hF (fun w hS => Y.load1L 1 sz_3 hF rfl hS rfl rfl) rfl fun a hF => ?_
    refine stepV (i := 10) rfl hF (fun w hS => Y.add hF rfl rfl) rfl fun a hF => ?_
    refine stepV (i := 12) rfl hF (fun w hS => Y.indexArr u_39 sz_3 hF rfl rfl (by decide) (by decide)) rfl fun a hF => ?_
    refine stepV (i := 13) rfl hF (fun w hS => Y.load1L 3 sz_3 hF rfl hS rfl rfl) rfl fun a hF => ?_
    refine stepV (i := 14) rfl hF (fun w hS => Y.fieldAddr fo_26_0 hF rfl) rfl fun a hF => ?_
    refine stepV (i := 15) rfl hF (fun w hS => Y.load1L 1 sz_3 hF rfl hS rfl rfl) rfl fun a hF => ?_
    refine stepV (i := 16) rfl hF (fun w hS => Y.add hF rfl rfl) rfl fun a hF => ?_
    refine oneV (i := 5) rfl ?_ trivial
    refine O.callP (us := [.int .i64 m.a0, .int .i64 (wr (c.Hours + 1))]) ca_34 hF hS (remontoirref00_Rest_ok hS.stab m.a0 (wr (c.Hours + 1)) rv_5 hx_5) rfl rfl fun a w hF hS => ?_
    refine nil (then_n ⟨hS.weak ⟨rfl, rfl, rfl, trivial⟩, ?_⟩)
    refine oneV (i := 11) rfl ?_ trivial
    refine O.callP (us := [.int .i64 m.a1, .int .i64 (wr (c.Hours + 1))]) ca_34 hF hS (remontoirref00_Rest_ok hS.stab m.a1 (wr (c.Hours + 1)) rv_6 hx_6) rfl rfl fun a w hF hS => ?_
    refine nil (then_n ⟨hS.weak ⟨rfl, rfl, rfl, trivial⟩, ?_⟩)
    exact toTailV ⟨hF.weak ⟨rfl, rfl, rfl, rfl, rfl, rfl, rfl, rfl, rfl, trivial⟩, hS.weak ⟨rfl, rfl, rfl, trivial⟩⟩
   rintro a w ⟨hF, hS⟩
   obtain ⟨rv_7, hx_7, h⟩ := bind_some h
   refine O.callP (us := [.int .i64 m.a2, .int .i64 (wr (c.Hours + 1))]) ca_34 hF hS (remontoirref00_Rest_ok hS.stab m.a2 (wr (c.Hours + 1)) rv_7 hx_7) rfl rfl fun a w hF hS => ?_
   refine step hF (Y.assign hF rfl) rfl fun a hF => ?_
   refine step hF (Y.assign hF rfl) rfl fun a hF => ?_
   refine step hF (Y.assign hF rfl) rfl fun a hF => ?_
   refine nil (then_n ?_)
   refine seq ?_
   refine region ?_
   refine step hF (Y.loadNL 1 sz_26 hF rfl hS rfl rfl rfl) rfl fun a hF => ?_
   refine step hF (Y.move hF rfl) rfl fun a hF => ?_
   refine step hF (Y.move hF rfl) rfl fun a hF => ?_
   obtain ⟨rv_8, hx_8, h⟩ := bind_some h
   refine O.callP (us := [.agg #[.int .i64 c.Hours, .slice p c.Rates.length c_1, .slice p_1 c.Opens.length c_2, .slice p_2 c.Pairs.length c_3], .int .i64 rv_2, .int .i64 rv_5]) ca_19 hF hS (beat_Offset_ok hS.stab c rv_2 rv_5 hs hs_1 hs_2 hG rv_8 hx_8) rfl rfl fun a w hF hS => ?_
   refine step hF (Y.move hF rfl) rfl fun a hF => ?_
   refine step hF (Y.extract hF rfl rfl) rfl fun a hF => ?_
   refine step hF (Y.extract hF rfl rfl) rfl fun a hF => ?_
   refine O.alloc 4 zc_34 hF hS rfl fun b_3 a w hF hS => ?_
   refine O.store (us := [.int .i64 rv_8.1.Low, .int .i64 rv_8.1.High]) 4 sz_34 hF rfl rfl rfl rfl hS rfl rfl fun a w hF hS => ?_
   refine step hF (Y.assign hF rfl) rfl fun a hF => ?_
   refine nil (then_n ?_)
   refine seq ?_
   refine region ?_
   refine step hF (Y.loadNL 1 sz_26 hF rfl hS rfl rfl rfl) rfl fun a hF => ?_
   refine step hF (Y.move hF rfl) rfl fun a hF => ?_
   refine step hF (Y.move hF rfl) rfl fun a hF => ?_
   obtain ⟨rv_9, hx_9, h⟩ := bind_some h
   refine O.callP (us := [.agg #[.int .i64 c.Hours, .slice p c.Rates.length c_1, .slice p_1 c.Opens.length c_2, .slice p_2 c.Pairs.length c_3], .int .i64 rv_3, .int .i64 rv_5]) ca_19 hF hS (beat_Offset_ok hS.stab c rv_3 rv_5 hs hs_1 hs_2 hG rv_9 hx_9) rfl rfl fun a w hF hS => ?_
   refine step hF (Y.move hF rfl) rfl fun a hF => ?_
   refine step hF (Y.extract hF rfl rfl) rfl fun a hF => ?_
   refine step hF (Y.extract hF rfl rfl) rfl fun a hF => ?_
   refine O.alloc 5 zc_34 hF hS rfl fun b_4 a w hF hS => ?_
   refine O.store (us := [.int .i64 rv_9.1.Low, .int .i64 rv_9.1.High]) 5 sz_34 hF rfl rfl rfl rfl hS rfl rfl fun a w hF hS => ?_
   refine step hF (Y.assign hF rfl) rfl fun a hF => ?_
   refine nil (then_n ?_)
   refine seq ?_
   refine seq ?_
   refine region ?_
   refine step hF (Y.move hF rfl) rfl fun a hF => ?_
   refine step hF (Y.neq hF rfl rfl) rfl fun a hF => ?_
   refine nil (then_n ?_)
   refine cond_b hF rfl (fun hbv_1 => ?_) (fun hbv_1 => ?_)
   ·as_aux_lemma =>
     replace h := cond_t h hbv_1
     refine seq ?_
     refine region ?_
     refine step hF (Y.move hF rfl) rfl fun a hF => ?_
     refine step hF (Y.eql hF rfl rfl) rfl fun a hF => ?_
     refine step hF (Y.move hF rfl) rfl fun a hF => ?_
     refine join (N := 306) (rs := []) (w0 := w0) (D0 := D0) 4 (us := [(3, .pointer (some ⟨b, 0, none⟩)), (6, .bool false), (7, .int .i64 rv_2), (8, .int .i64 rv_3), (9, .int .i64 rv_4), (10, .int .i64 rv_5), (11, .int .i64 rv_6), (12, .int .i64 rv_7), (13, .pointer (some ⟨b_3, 0, none⟩)), (14, .int .i64 rv_8.2), (15, .pointer (some ⟨b_4, 0, none⟩)), (16, .int .i64 rv_9.2), (88, .bool ((rv_8.2 == 22) && (rv_9.2 == rv_8.2)))]) (ms := [(1, .cells b [.int .i64 c.Hours, .slice p c.Rates.length c_1, .slice p_1 c.Opens.length c_2, .slice p_2 c.Pairs.length c_3] 26), (2, .cells b_1 [.int .i64 n.a0, .int .i64 n.a1, .int .i64 n.a2] 39), (3, .cells b_2 [.int .i64 m.a0, .int .i64 m.a1, .int .i64 m.a2] 39), (4, .cells b_3 [.int .i64 rv_8.1.Low, .int .i64 rv_8.1.High] 34), (5, .cells b_4 [.int .i64 rv_9.1.Low, .int .i64 rv_9.1.High] 34)]) (D' := D0) ?_ ?_
     ·rcases bcases (rv_8.2 == 22) with hbv_2 | hbv_2
      ·-- true
       refine guard_on hF rfl rfl hbv_2 ?_
       refine step hF (Y.move hF rfl) rfl fun a hF => ?_
       refine guard_on hF rfl rfl hbv_2 ?_
       refine step hF (Y.move hF rfl) rfl fun a hF => ?_
       refine guard_on hF rfl rfl hbv_2 ?_
       refine step hF (Y.eql hF rfl rfl) rfl fun a hF => ?_
       refine step hF (Y.pick_t hF rfl hbv_2 rfl) rfl fun a hF => ?_
       exact nil (then_n ⟨hF.weak ⟨rfl, rfl, rfl, rfl, rfl, rfl, rfl, rfl, rfl, rfl, rfl, rfl, (by rw [hbv_2]; rfl), trivial⟩, hS.weak ⟨rfl, rfl, rfl, rfl, rfl, trivial⟩⟩)
      ·-- false
       refine guard_off hF rfl rfl hbv_2 rfl fun a hF => ?_
       refine guard_off hF rfl rfl hbv_2 rfl fun a hF => ?_
       refine guard_off hF rfl rfl hbv_2 rfl fun a hF => ?_
       refine step hF (Y.pick_f hF rfl hbv_2 rfl) rfl fun a hF => ?_
       exact nil (then_n ⟨hF.weak ⟨rfl, rfl, rfl, rfl, rfl, rfl, rfl, rfl, rfl, rfl, rfl, rfl, (by rw [hbv_2]; rfl), trivial⟩, hS.weak ⟨rfl, rfl, rfl, rfl, rfl, trivial⟩⟩)
     intro a w hF hS
     refine step hF (Y.move hF rfl) rfl fun a hF => ?_
     obtain ⟨t, ht, h⟩ := bind_some h
     refine join (N := 306) (rs := []) (w0 := w0) (D0 := D0) 2 (us := [(3, .pointer (some ⟨b, 0, none⟩)), (6, .bool false), (7, .int .i64 rv_2), (8, .int .i64 rv_3), (9, .int .i64 rv_4), (10, .int .i64 rv_5), (11, .int .i64 rv_6), (12, .int .i64 rv_7), (13, .pointer (some ⟨b_3, 0, none⟩)), (14, .int .i64 rv_8.2), (15, .pointer (some ⟨b_4, 0, none⟩)), (16, .int .i64 rv_9.2), (91, .bool t)]) (ms := [(1, .cells b [.int .i64 c.Hours, .slice p c.Rates.length c_1, .slice p_1 c.Opens.length c_2, .slice p_2 c.Pairs.length c_3] 26), (2, .cells b_1 [.int .i64 n.a0, .int .i64 n.a1, .int .i64 n.a2] 39), (3, .cells b_2 [.int .i64 m.a0, .int .i64 m.a1, .int .i64 m.a2] 39), (4, .cells b_3 [.int .i64 rv_8.1.Low, .int .i64 rv_8.1.High] 34), (5, .cells b_4 [.int .i64 rv_9.1.Low, .int .i64 rv_9.1.High] 34)]) (D' := D0) ?_ ?_
     ·rcases bcases ((rv_8.2 == 22) && (rv_9.2 == rv_8.2)) with hbv_3 | hbv_3
      ·-- true
       replace h := cond_t ht hbv_3
       refine guard_on hF rfl rfl hbv_3 ?_
       obtain ⟨rv_10, hx_10, h⟩ := bind_some h
       refine O.callP (us := []) ca_21 hF hS (remontoirlaw02_works_ok hS.stab hG rv_10 hx_10) rfl rfl fun a w hF hS => ?_
       refine step hF (Y.pick_t hF rfl hbv_3 rfl) rfl fun a hF => ?_
       obtain rfl := some_inj h
       exact nil (then_n ⟨hF.weak ⟨rfl, rfl, rfl, rfl, rfl, rfl, rfl, rfl, rfl, rfl, rfl, rfl, rfl, trivial⟩, hS.weak ⟨rfl, rfl, rfl, rfl, rfl, trivial⟩⟩)
      ·-- false
       replace h := cond_f ht hbv_3
       refine guard_off hF rfl rfl hbv_3 rfl fun a hF => ?_
       refine step hF (Y.pick_f hF rfl hbv_3 rfl) rfl fun a hF => ?_
       obtain rfl := some_inj h
       exact nil (then_n ⟨hF.weak ⟨rfl, rfl, rfl, rfl, rfl, rfl, rfl, rfl, rfl, rfl, rfl, rfl, rfl, trivial⟩, hS.weak ⟨rfl, rfl, rfl, rfl, rfl, trivial⟩⟩)
     intro a w hF hS
     refine step hF (Y.assign hF rfl) rfl fun a hF => ?_
     refine nil (then_n ?_)
     refine ret_ (then_r ?_)
     obtain rfl := some_inj h
     exact leaveP Tryd.results11 hF hS (.cons (.tmp rfl) .nil) .nil rfl
   ·as_aux_lemma =>
     replace h := cond_f h hbv_1
     refine skip_ (then_n ?_)
     refine seq ?_
     refine region ?_
     refine step hF (Y.loadNL 1 sz_26 hF rfl hS rfl rfl rfl) rfl fun a hF => ?_
     refine step hF (Y.move hF rfl) rfl fun a hF => ?_
     refine step hF (Y.move hF rfl) rfl fun a hF => ?_
     refine step hF (Y.move hF rfl) rfl fun a hF => ?_
     obtain ⟨rv_11, hx_11, h⟩ := bind_some h
     refine O.callP (us := [.agg #[.int .i64 c.Hours, .slice p c.Rates.length c_1, .slice p_1 c.Opens.length c_2, .slice p_2 c.Pairs.length c_3], .int .i64 rv_2, .int .i64 rv_3, .int .i64 rv_5]) ca_22 hF hS (beat_Apart_ok hS.stab c rv_2 rv_3 rv_5 hs hs_1 hs_2 hG rv_11 hx_11) rfl rfl fun a w hF hS => ?_
     refine step hF (Y.move hF rfl) rfl fun a hF => ?_
     refine step hF (Y.extract hF rfl rfl) rfl fun a hF => ?_
     refine step hF (Y.extract hF rfl rfl) rfl fun a hF => ?_
     refine O.alloc 6 zc_34 hF hS rfl fun b_5 a w hF hS => ?_
     refine O.store (us := [.int .i64 rv_11.1.Low, .int .i64 rv_11.1.High]) 6 sz_34 hF rfl rfl rfl rfl hS rfl rfl fun a w hF hS => ?_
     refine step hF (Y.assign hF rfl) rfl fun a hF => ?_
     refine nil (then_n ?_)
     refine seq ?_
     refine region ?_
     refine step hF (Y.loadNL 1 sz_26 hF rfl hS rfl rfl rfl) rfl fun a hF => ?_
     refine step hF (Y.move hF rfl) rfl fun a hF => ?_
     refine step hF (Y.move hF rfl) rfl fun a hF => ?_
     refine step hF (Y.move hF rfl) rfl fun a hF => ?_
     obtain ⟨rv_12, hx_12, h⟩ := bind_some h
     refine O.callP (us := [.agg #[.int .i64 c.Hours, .slice p c.Rates.length c_1, .slice p_1 c.Opens.length c_2, .slice p_2 c.Pairs.length c_3], .int .i64 rv_3, .int .i64 rv_2, .int .i64 rv_5]) ca_22 hF hS (beat_Apart_ok hS.stab c rv_3 rv_2 rv_5 hs hs_1 hs_2 hG rv_12 hx_12) rfl rfl fun a w hF hS => ?_
     refine step hF (Y.move hF rfl) rfl fun a hF => ?_
     refine step hF (Y.extract hF rfl rfl) rfl fun a hF => ?_
     refine step hF (Y.extract hF rfl rfl) rfl fun a hF => ?_
     refine O.alloc 7 zc_34 hF hS rfl fun b_6 a w hF hS => ?_
     refine O.store (us := [.int .i64 rv_12.1.Low, .int .i64 rv_12.1.High]) 7 sz_34 hF rfl rfl rfl rfl hS rfl rfl fun a w hF hS => ?_
     refine step hF (Y.assign hF rfl) rfl fun a hF => ?_
     refine nil (then_n ?_)
     refine seq ?_
     refine region ?_
     refine step hF (Y.loadNL 1 sz_26 hF rfl hS rfl rfl rfl) rfl fun a hF => ?_
     refine step hF (Y.move hF rfl) rfl fun a hF => ?_
     refine step hF (Y.move hF rfl) rfl fun a hF => ?_
     refine step hF (Y.move hF rfl) rfl fun a hF => ?_
     obtain ⟨rv_13, hx_13, h⟩ := bind_some h
     refine O.callP (us := [.agg #[.int .i64 c.Hours, .slice p c.Rates.length c_1, .slice p_1 c.Opens.length c_2, .slice p_2 c.Pairs.length c_3], .int .i64 rv_2, .int .i64 rv_4, .int .i64 rv_5]) ca_22 hF hS (beat_Apart_ok hS.stab c rv_2 rv_4 rv_5 hs hs_1 hs_2 hG rv_13 hx_13) rfl rfl fun a w hF hS => ?_
     refine step hF (Y.move hF rfl) rfl fun a hF => ?_
     refine step hF (Y.extract hF rfl rfl) rfl fun a hF => ?_
     refine step hF (Y.extract hF rfl rfl) rfl fun a hF => ?_
     refine O.alloc 8 zc_34 hF hS rfl fun b_7 a w hF hS => ?_
     refine O.store (us := [.int .i64 rv_13.1.Low, .int .i64 rv_13.1.High]) 8 sz_34 hF rfl rfl rfl rfl hS rfl rfl fun a w hF hS => ?_
     refine step hF (Y.assign hF rfl) rfl fun a hF => ?_
     refine nil (then_n ?_)
     refine seq ?_
     refine region ?_
     refine step hF (Y.loadNL 1 sz_26 hF rfl hS rfl rfl rfl) rfl fun a hF => ?_
     refine step hF (Y.move hF rfl) rfl fun a hF => ?_
     refine step hF (Y.move hF rfl) rfl fun a hF => ?_
     refine step hF (Y.move hF rfl) rfl fun a hF => ?_
     obtain ⟨rv_14, hx_14, h⟩ := bind_some h
     refine O.callP (us := [.agg #[.int .i64 c.Hours, .slice p c.Rates.length c_1, .slice p_1 c.Opens.length c_2, .slice p_2 c.Pairs.length c_3], .int .i64 rv_4, .int .i64 rv_3, .int .i64 rv_5]) ca_22 hF hS (beat_Apart_ok hS.stab c rv_4 rv_3 rv_5 hs hs_1 hs_2 hG rv_14 hx_14) rfl rfl fun a w hF hS => ?_
     refine step hF (Y.move hF rfl) rfl fun a hF => ?_
     refine step hF (Y.extract hF rfl rfl) rfl fun a hF => ?_
     refine step hF (Y.extract hF rfl rfl) rfl fun a hF => ?_
     refine O.alloc 9 zc_34 hF hS rfl fun b_8 a w hF hS => ?_
     refine O.store (us := [.int .i64 rv_14.1.Low, .int .i64 rv_14.1.High]) 9 sz_34 hF rfl rfl rfl rfl hS rfl rfl fun a w hF hS => ?_
     refine step hF (Y.assign hF rfl) rfl fun a hF => ?_
     refine nil (then_n ?_)
     refine seq ?_
     refine seq ?_
     obtain ⟨t_1, ht_1, h⟩ := bind_some h
     obtain ⟨t_2, ht_2, h⟩ := bind_some h
     obtain ⟨t_3, ht_3, h⟩ := bind_some h
     obtain ⟨t_4, ht_4, h⟩ := bind_some h
     obtain ⟨t_5, ht_5, h⟩ := bind_some h
     obtain ⟨t_6, ht_6, h⟩ := bind_some h
     obtain ⟨t_7, ht_7, h⟩ := bind_some h
     obtain ⟨t_9, ht_9, h⟩ := bind_some h
     refine drawsV 71 (.flt 0 (.flt 1 (.flt 2 (.flt 3 (.flt 4 (.flt 5 (.flt 6 (.flt 7 (.flt 8 (.flt 9 (.flt 10 (.flt 11 (.flt 12 (.flt 13 (.flt 14 (.flt 15 (.flt 16 (.flt 17 (.flt 18 (.flt 19 (.flt 20 (.flt 21 (.flt 22 (.flt 23 (.flt 24 (.flt 25 (.alt 26 (.flt 27 (.flt 28 (.flt 29 (.flt 30 (.flt 31 (.flt 32 (.flt 33 (.flt 34 (.flt 35 (.flt 36 (.flt 37 (.flt 38 (.flt 39 (.flt 40 (.alt 41 (.alt 42 (.flt 43 (.flt 44 (.flt 45 (.flt 46 (.flt 47 (.flt 48 (.flt 49 (.flt 50 (.flt 51 (.flt 52 (.flt 53 (.flt 54 (.flt 55 (.flt 56 (.alt 57 (.alt 58 (.flt 59 (.flt 60 (.flt 61 (.flt 62 (.flt 63 (.flt 64 (.flt 65 (.flt 66 (.alt 67 (.flt 68 (.flt 69 (.flt 70 .done))) .stop))))))))) .stop) .stop))))))))))))))) .stop) .stop))))))))))))))) .stop))))))))))))))))))))))))))) mixed_ (by kernel_rfl) (fun w => St w0 D0 D0 [(1, .cells b [.int .i64 c.Hours, .slice p c.Rates.length c_1, .slice p_1 c.Opens.length c_2, .slice p_2 c.Pairs.length c_3] 26), (2, .cells b_1 [.int .i64 n.a0, .int .i64 n.a1, .int .i64 n.a2] 39), (3, .cells b_2 [.int .i64 m.a0, .int .i64 m.a1, .int .i64 m.a2] 39), (4, .cells b_3 [.int .i64 rv_8.1.Low, .int .i64 rv_8.1.High] 34), (5, .cells b_4 [.int .i64 rv_9.1.Low, .int .i64 rv_9.1.High] 34), (6, .cells b_5 [.int .i64 rv_11.1.Low, .int .i64 rv_11.1.High] 34), (7, .cells b_6 [.int .i64 rv_12.1.Low, .int .i64 rv_12.1.High] 34), (8, .cells b_7 [.int .i64 rv_13.1.Low, .int .i64 rv_13.1.High] 34), (9, .cells b_8 [.int .i64 rv_14.1.Low, .int .i64 rv_14.1.High] 34)] w) (fun a w => Frm 306 [] [(3, .pointer (some ⟨b, 0, none⟩)), (6, .bool false), (7, .int .i64 rv_2), (10, .int .i64 rv_5), (11, .int .i64 rv_6), (12, .int .i64 rv_7), (13, .pointer (some ⟨b_3, 0, none⟩)), (14, .int .i64 rv_8.2), (17, .pointer (some ⟨b_5, 0, none⟩)), (18, .int .i64 rv_11.2), (19, .pointer (some ⟨b_6, 0, none⟩)), (20, .int .i64 rv_12.2), (21, .pointer (some ⟨b_7, 0, none⟩)), (22, .int .i64 rv_13.2), (23, .pointer (some ⟨b_8, 0, none⟩)), (24, .int .i64 rv_14.2), (194, .bool t_9)] a ∧ St w0 D0 D0 [(1, .cells b [.int .i64 c.Hours, .slice p c.Rates.length c_1, .slice p_1 c.Opens.length c_2, .slice p_2 c.Pairs.length c_3] 26), (2, .cells b_1 [.int .i64 n.a0, .int .i64 n.a1, .int .i64 n.a2] 39), (3, .cells b_2 [.int .i64 m.a0, .int .i64 m.a1, .int .i64 m.a2] 39), (4, .cells b_3 [.int .i64 rv_8.1.Low, .int .i64 rv_8.1.High] 34), (5, .cells b_4 [.int .i64 rv_9.1.Low, .int .i64 rv_9.1.High] 34), (6, .cells b_5 [.int .i64 rv_11.1.Low, .int .i64 rv_11.1.High] 34), (7, .cells b_6 [.int .i64 rv_12.1.Low, .int .i64 rv_12.1.High] 34), (8, .cells b_7 [.int .i64 rv_13.1.Low, .int .i64 rv_13.1.High] 34), (9, .cells b_8 [.int .i64 rv_14.1.Low, .int .i64 rv_14.1.High] 34)] w) (hS.weak (ms := [(1, .cells b [.int .i64 c.Hours, .slice p c.Rates.length c_1, .slice p_1 c.Opens.length c_2, .slice p_2 c.Pairs.length c_3] 26), (2, .cells b_1 [.int .i64 n.a0, .int .i64 n.a1, .int .i64 n.a2] 39), (3, .cells b_2 [.int .i64 m.a0, .int .i64 m.a1, .int .i64 m.a2] 39), (4, .cells b_3 [.int .i64 rv_8.1.Low, .int .i64 rv_8.1.High] 34), (5, .cells b_4 [.int .i64 rv_9.1.Low, .int .i64 rv_9.1.High] 34), (6, .cells b_5 [.int .i64 rv_11.1.Low, .int .i64 rv_11.1.High] 34), (7, .cells b_6 [.int .i64 rv_12.1.Low, .int .i64 rv_12.1.High] 34), (8, .cells b_7 [.int .i64 rv_13.1.Low, .int .i64 rv_13.1.High] 34), (9, .cells b_8 [.int .i64 rv_14.1.Low, .int .i64 rv_14.1.High] 34)]) ⟨rfl, rfl, rfl, rfl, rfl, rfl, rfl, rfl, rfl, trivial⟩).drew (fun _ _ _ _ h => h) ?_ ?_
     ·as_aux_lemma =>
       replace hS := hS.drew
       have hle0 := hS.le
       rcases bcases (rv_9.2 != 0) with hbv_4 | hbv_4
       ·as_aux_lemma =>
         skip
         replace ht_1 := cond_t ht_1 hbv_4
         obtain rfl := some_inj ht_1
         replace ht_2 := cond_t ht_2 rfl
         obtain rfl := some_inj ht_2
         replace ht_3 := cond_t ht_3 rfl
         obtain rfl := some_inj ht_3
         replace ht_4 := cond_t ht_4 rfl
         obtain rfl := some_inj ht_4
         replace ht_5 := cond_t ht_5 rfl
         obtain rfl := some_inj ht_5
         replace ht_6 := cond_t ht_6 rfl
         obtain rfl := some_inj ht_6
         replace ht_7 := cond_t ht_7 rfl
         obtain rfl := some_inj ht_7
         replace ht_9 := cond_t ht_9 rfl
         obtain rfl := some_inj ht_9
         refine stepV (i := 0) rfl hF (fun w hS => Y.move hF rfl) rfl fun a hF => ?_
         refine stepV (i := 1) rfl hF (fun w hS => Y.neq hF rfl rfl) rfl fun a hF => ?_
         refine stepV (i := 2) rfl hF (fun w hS => Y.move hF rfl) rfl fun a hF => ?_
         refine stepV_off (i := 3) rfl hF rfl rfl hbv_4 rfl fun a hF => ?_
         refine stepV_off (i := 4) rfl hF rfl rfl hbv_4 rfl fun a hF => ?_
         refine stepV (i := 5) rfl hF (fun w hS => Y.pick_t hF rfl hbv_4 rfl) rfl fun a hF => ?_
         refine stepV (i := 6) rfl hF (fun w hS => Y.move hF rfl) rfl fun a hF => ?_
         refine stepV_off (i := 7) rfl hF rfl rfl rfl rfl fun a hF => ?_
         refine stepV_off (i := 8) rfl hF rfl rfl rfl rfl fun a hF => ?_
         refine stepV (i := 9) rfl hF (fun w hS => Y.pick_t hF rfl rfl rfl) rfl fun a hF => ?_
         refine stepV (i := 10) rfl hF (fun w hS => Y.move hF rfl) rfl fun a hF => ?_
         refine stepV_off (i := 11) rfl hF rfl rfl rfl rfl fun a hF => ?_
         refine stepV_off (i := 12) rfl hF rfl rfl rfl rfl fun a hF => ?_
         refine stepV (i := 13) rfl hF (fun w hS => Y.pick_t hF rfl rfl rfl) rfl fun a hF => ?_
         refine stepV (i := 14) rfl hF (fun w hS => Y.move hF rfl) rfl fun a hF => ?_
         refine stepV_off (i := 15) rfl hF rfl rfl rfl rfl fun a hF => ?_
         refine stepV_off (i := 16) rfl hF rfl rfl rfl rfl fun a hF => ?_
         refine stepV (i := 17) rfl hF (fun w hS => Y.pick_t hF rfl rfl rfl) rfl fun a hF => ?_
         refine stepV (i := 18) rfl hF (fun w hS => Y.move hF rfl) rfl fun a hF => ?_
         refine stepV_off (i := 19) rfl hF rfl rfl rfl rfl fun a hF => ?_
         refine stepV_off (i := 20) rfl hF rfl rfl rfl rfl fun a hF => ?_
         refine stepV_off (i := 21) rfl hF rfl rfl rfl rfl fun a hF => ?_
         refine stepV_off (i := 22) rfl hF rfl rfl rfl rfl fun a hF => ?_
         refine stepV_off (i := 23) rfl hF rfl rfl rfl rfl fun a hF => ?_
         refine stepV_off (i := 24) rfl hF rfl rfl rfl rfl fun a hF => ?_
         refine stepV_off (i := 25) rfl hF rfl rfl rfl rfl fun a hF => ?_
         refine oneV (i := 26) rfl ?_ trivial
         refine guard_off hF rfl rfl rfl rfl fun a hF => nil (then_n ⟨hS.weak ⟨rfl, rfl, rfl, rfl, rfl, rfl, rfl, rfl, rfl, trivial⟩, ?_⟩)
         refine stepV_off (i := 27) rfl hF rfl rfl rfl rfl fun a hF => ?_
         refine stepV (i := 28) rfl hF (fun w hS => Y.pick_t hF rfl rfl rfl) rfl fun a hF => ?_
         refine stepV (i := 29) rfl hF (fun w hS => Y.move hF rfl) rfl fun a hF => ?_
         refine stepV_off (i := 30) rfl hF rfl rfl rfl rfl fun a hF => ?_
         refine stepV_off (i := 31) rfl hF rfl rfl rfl rfl fun a hF => ?_
         refine stepV_off (i := 32) rfl hF rfl rfl rfl rfl fun a hF => ?_
         refine stepV_off (i := 33) rfl hF rfl rfl rfl rfl fun a hF => ?_
         refine stepV_off (i := 34) rfl hF rfl rfl rfl rfl fun a hF => ?_
         refine stepV_off (i := 35) rfl hF rfl rfl rfl rfl fun a hF => ?_
         refine stepV_off (i := 36) rfl hF rfl rfl rfl rfl fun a hF => ?_
         refine stepV_off (i := 37) rfl hF rfl rfl rfl rfl fun a hF => ?_
         refine stepV_off (i := 38) rfl hF rfl rfl rfl rfl fun a hF => ?_
         refine stepV_off (i := 39) rfl hF rfl rfl rfl rfl fun a hF => ?_
         refine stepV_off (i := 40) rfl hF rfl rfl rfl rfl fun a hF => ?_
         refine oneV (i := 41) rfl ?_ trivial
         refine guard_off hF rfl rfl rfl rfl fun a hF => nil (then_n ⟨hS.weak ⟨rfl, rfl, rfl, rfl, rfl, rfl, rfl, rfl, rfl, trivial⟩, ?_⟩)
         refine oneV (i := 42) rfl ?_ trivial
         refine guard_off hF rfl rfl rfl rfl fun a hF => nil (then_n ⟨hS.weak ⟨rfl, rfl, rfl, rfl, rfl, rfl, rfl, rfl, rfl, trivial⟩, ?_⟩)
         refine stepV_off (i := 43) rfl hF rfl rfl rfl rfl fun a hF => ?_
         refine stepV (i := 44) rfl hF (fun w hS => Y.pick_t hF rfl rfl rfl) rfl fun a hF => ?_
         refine stepV (i := 45) rfl hF (fun w hS => Y.move hF rfl) rfl fun a hF => ?_
         refine stepV_off (i := 46) rfl hF rfl rfl rfl rfl fun a hF => ?_
         refine stepV_off (i := 47) rfl hF rfl rfl rfl rfl fun a hF => ?_
         refine stepV_off (i := 48) rfl hF rfl rfl rfl rfl fun a hF => ?_
         refine stepV_off (i := 49) rfl hF rfl rfl rfl rfl fun a hF => ?_
         refine stepV_off (i := 50) rfl hF rfl rfl rfl rfl fun a hF => ?_
         refine stepV_off (i := 51) rfl hF rfl rfl rfl rfl fun a hF => ?_
         refine stepV_off (i := 52) rfl hF rfl rfl rfl rfl fun a hF => ?_
         refine stepV_off (i := 53) rfl hF rfl rfl rfl rfl fun a hF => ?_
         refine stepV_off (i := 54) rfl hF rfl rfl rfl rfl fun a hF => ?_
         refine stepV_off (i := 55) rfl hF rfl rfl rfl rfl fun a hF => ?_
         refine stepV_off (i := 56) rfl hF rfl rfl rfl rfl fun a hF => ?_
         refine oneV (i := 57) rfl ?_ trivial
         refine guard_off hF rfl rfl rfl rfl fun a hF => nil (then_n ⟨hS.weak ⟨rfl, rfl, rfl, rfl, rfl, rfl, rfl, rfl, rfl, trivial⟩, ?_⟩)
         refine oneV (i := 58) rfl ?_ trivial
         refine guard_off hF rfl rfl rfl rfl fun a hF => nil (then_n ⟨hS.weak ⟨rfl, rfl, rfl, rfl, rfl, rfl, rfl, rfl, rfl, trivial⟩, ?_⟩)
         refine stepV_off (i := 59) rfl hF rfl rfl rfl rfl fun a hF => ?_
         refine stepV (i := 60) rfl hF (fun w hS => Y.pick_t hF rfl rfl rfl) rfl fun a hF => ?_
         refine stepV (i := 61) rfl hF (fun w hS => Y.move hF rfl) rfl fun a hF => ?_
         refine stepV_off (i := 62) rfl hF rfl rfl rfl rfl fun a hF => ?_
         refine stepV_off (i := 63) rfl hF rfl rfl rfl rfl fun a hF => ?_
         refine stepV_off (i := 64) rfl hF rfl rfl rfl rfl fun a hF => ?_
         refine stepV_off (i := 65) rfl hF rfl rfl rfl rfl fun a hF => ?_
         refine stepV_offu (i := 66) rfl hF rfl rfl rfl fun a hF => ?_
         refine oneV (i := 67) rfl ?_ trivial
         refine guard_offu hF rfl rfl rfl fun a hF => nil (then_n ⟨hS.weak ⟨rfl, rfl, rfl, rfl, rfl, rfl, rfl, rfl, rfl, trivial⟩, ?_⟩)
         refine stepV_offu (i := 68) rfl hF rfl rfl rfl fun a hF => ?_
         refine stepV_off (i := 69) rfl hF rfl rfl rfl rfl fun a hF => ?_
         refine stepV (i := 70) rfl hF (fun w hS => Y.pick_t hF rfl rfl rfl) rfl fun a hF => ?_
         exact toTailV ⟨hF.weak ⟨rfl, rfl, rfl, rfl, rfl, rfl, rfl, rfl, rfl, rfl, rfl, rfl, rfl, rfl, rfl, rfl, rfl, trivial⟩, hS.weak ⟨rfl, rfl, rfl, rfl, rfl, rfl, rfl, rfl, rfl, trivial⟩⟩
       ·as_aux_lemma =>
         skip
         replace ht_1 := cond_f ht_1 hbv_4
         obtain rfl := some_inj ht_1
         rcases bcases (rv_11.2 != 0) with hbv_5 | hbv_5
         ·as_aux_lemma =>
           skip
           replace ht_2 := cond_t ht_2 hbv_5
           obtain rfl := some_inj ht_2
           replace ht_3 := cond_t ht_3 rfl
           obtain rfl := some_inj ht_3
           replace ht_4 := cond_t ht_4 rfl
           obtain rfl := some_inj ht_4
           replace ht_5 := cond_t ht_5 rfl
           obtain rfl := some_inj ht_5
           replace ht_6 := cond_t ht_6 rfl
           obtain rfl := some_inj ht_6
           replace ht_7 := cond_t ht_7 rfl
           obtain rfl := some_inj ht_7
           replace ht_9 := cond_t ht_9 rfl
           obtain rfl := some_inj ht_9
           refine stepV (i := 0) rfl hF (fun w hS => Y.move hF rfl) rfl fun a hF => ?_
           refine stepV (i := 1) rfl hF (fun w hS => Y.neq hF rfl rfl) rfl fun a hF => ?_
           refine stepV (i := 2) rfl hF (fun w hS => Y.move hF rfl) rfl fun a hF => ?_
           refine stepV_on (i := 3) rfl hF rfl rfl hbv_4 (fun w hS => Y.move hF rfl) rfl fun a hF => ?_
           refine stepV_on (i := 4) rfl hF rfl rfl hbv_4 (fun w hS => Y.neq hF rfl rfl) rfl fun a hF => ?_
           refine stepV (i := 5) rfl hF (fun w hS => Y.pick_f hF rfl hbv_4 rfl) rfl fun a hF => ?_
           refine stepV (i := 6) rfl hF (fun w hS => Y.move hF rfl) rfl fun a hF => ?_
           refine stepV_off (i := 7) rfl hF rfl rfl hbv_5 rfl fun a hF => ?_
           refine stepV_off (i := 8) rfl hF rfl rfl hbv_5 rfl fun a hF => ?_
           refine stepV (i := 9) rfl hF (fun w hS => Y.pick_t hF rfl hbv_5 rfl) rfl fun a hF => ?_
           refine stepV (i := 10) rfl hF (fun w hS => Y.move hF rfl) rfl fun a hF => ?_
           refine stepV_off (i := 11) rfl hF rfl rfl rfl rfl fun a hF => ?_
           refine stepV_off (i := 12) rfl hF rfl rfl rfl rfl fun a hF => ?_
           refine stepV (i := 13) rfl hF (fun w hS => Y.pick_t hF rfl rfl rfl) rfl fun a hF => ?_
           refine stepV (i := 14) rfl hF (fun w hS => Y.move hF rfl) rfl fun a hF => ?_
           refine stepV_off (i := 15) rfl hF rfl rfl rfl rfl fun a hF => ?_
           refine stepV_off (i := 16) rfl hF rfl rfl rfl rfl fun a hF => ?_
           refine stepV (i := 17) rfl hF (fun w hS => Y.pick_t hF rfl rfl rfl) rfl fun a hF => ?_
           refine stepV (i := 18) rfl hF (fun w hS => Y.move hF rfl) rfl fun a hF => ?_
           refine stepV_off (i := 19) rfl hF rfl rfl rfl rfl fun a hF => ?_
           refine stepV_off (i := 20) rfl hF rfl rfl rfl rfl fun a hF => ?_
           refine stepV_off (i := 21) rfl hF rfl rfl rfl rfl fun a hF => ?_
           refine stepV_off (i := 22) rfl hF rfl rfl rfl rfl fun a hF => ?_
           refine stepV_off (i := 23) rfl hF rfl rfl rfl rfl fun a hF => ?_
           refine stepV_off (i := 24) rfl hF rfl rfl rfl rfl fun a hF => ?_
           refine stepV_off (i := 25) rfl hF rfl rfl rfl rfl fun a hF => ?_
           refine oneV (i := 26) rfl ?_ trivial
           refine guard_off hF rfl rfl rfl rfl fun a hF => nil (then_n ⟨hS.weak ⟨rfl, rfl, rfl, rfl, rfl, rfl, rfl, rfl, rfl, trivial⟩, ?_⟩)
           refine stepV_off (i := 27) rfl hF rfl rfl rfl rfl fun a hF => ?_
           refine stepV (i := 28) rfl hF (fun w hS => Y.pick_t hF rfl rfl rfl) rfl fun a hF => ?_
           refine stepV (i := 29) rfl hF (fun w hS => Y.move hF rfl) rfl fun a hF => ?_
           refine stepV_off (i := 30) rfl hF rfl rfl rfl rfl fun a hF => ?_
           refine stepV_off (i := 31) rfl hF rfl rfl rfl rfl fun a hF => ?_
           refine stepV_off (i := 32) rfl hF rfl rfl rfl rfl fun a hF => ?_
           refine stepV_off (i := 33) rfl hF rfl rfl rfl rfl fun a hF => ?_
           refine stepV_off (i := 34) rfl hF rfl rfl rfl rfl fun a hF => ?_
           refine stepV_off (i := 35) rfl hF rfl rfl rfl rfl fun a hF => ?_
           refine stepV_off (i := 36) rfl hF rfl rfl rfl rfl fun a hF => ?_
           refine stepV_off (i := 37) rfl hF rfl rfl rfl rfl fun a hF => ?_
           refine stepV_off (i := 38) rfl hF rfl rfl rfl rfl fun a hF => ?_
           refine stepV_off (i := 39) rfl hF rfl rfl rfl rfl fun a hF => ?_
           refine stepV_off (i := 40) rfl hF rfl rfl rfl rfl fun a hF => ?_
           refine oneV (i := 41) rfl ?_ trivial
           refine guard_off hF rfl rfl rfl rfl fun a hF => nil (then_n ⟨hS.weak ⟨rfl, rfl, rfl, rfl, rfl, rfl, rfl, rfl, rfl, trivial⟩, ?_⟩)
           refine oneV (i := 42) rfl ?_ trivial
           refine guard_off hF rfl rfl rfl rfl fun a hF => nil (then_n ⟨hS.weak ⟨rfl, rfl, rfl, rfl, rfl, rfl, rfl, rfl, rfl, trivial⟩, ?_⟩)
           refine stepV_off (i := 43) rfl hF rfl rfl rfl rfl fun a hF => ?_
           refine stepV (i := 44) rfl hF (fun w hS => Y.pick_t hF rfl rfl rfl) rfl fun a hF => ?_
           refine stepV (i := 45) rfl hF (fun w hS => Y.move hF rfl) rfl fun a hF => ?_
           refine stepV_off (i := 46) rfl hF rfl rfl rfl rfl fun a hF => ?_
           refine stepV_off (i := 47) rfl hF rfl rfl rfl rfl fun a hF => ?_
           refine stepV_off (i := 48) rfl hF rfl rfl rfl rfl fun a hF => ?_
           refine stepV_off (i := 49) rfl hF rfl rfl rfl rfl fun a hF => ?_
           refine stepV_off (i := 50) rfl hF rfl rfl rfl rfl fun a hF => ?_
           refine stepV_off (i := 51) rfl hF rfl rfl rfl rfl fun a hF => ?_
           refine stepV_off (i := 52) rfl hF rfl rfl rfl rfl fun a hF => ?_
           refine stepV_off (i := 53) rfl hF rfl rfl rfl rfl fun a hF => ?_
           refine stepV_off (i := 54) rfl hF rfl rfl rfl rfl fun a hF => ?_
           refine stepV_off (i := 55) rfl hF rfl rfl rfl rfl fun a hF => ?_
           refine stepV_off (i := 56) rfl hF rfl rfl rfl rfl fun a hF => ?_
           refine oneV (i := 57) rfl ?_ trivial
           refine guard_off hF rfl rfl rfl rfl fun a hF => nil (then_n ⟨hS.weak ⟨rfl, rfl, rfl, rfl, rfl, rfl, rfl, rfl, rfl, trivial⟩, ?_⟩)
           refine oneV (i := 58) rfl ?_ trivial
           refine guard_off hF rfl rfl rfl rfl fun a hF => nil (then_n ⟨hS.weak ⟨rfl, rfl, rfl, rfl, rfl, rfl, rfl, rfl, rfl, trivial⟩, ?_⟩)
           refine stepV_off (i := 59) rfl hF rfl rfl rfl rfl fun a hF => ?_
           refine stepV (i := 60) rfl hF (fun w hS => Y.pick_t hF rfl rfl rfl) rfl fun a hF => ?_
           refine stepV (i := 61) rfl hF (fun w hS => Y.move hF rfl) rfl fun a hF => ?_
           refine stepV_off (i := 62) rfl hF rfl rfl rfl rfl fun a hF => ?_
           refine stepV_off (i := 63) rfl hF rfl rfl rfl rfl fun a hF => ?_
           refine stepV_off (i := 64) rfl hF rfl rfl rfl rfl fun a hF => ?_
           refine stepV_off (i := 65) rfl hF rfl rfl rfl rfl fun a hF => ?_
           refine stepV_offu (i := 66) rfl hF rfl rfl rfl fun a hF => ?_
           refine oneV (i := 67) rfl ?_ trivial
           refine guard_offu hF rfl rfl rfl fun a hF => nil (then_n ⟨hS.weak ⟨rfl, rfl, rfl, rfl, rfl, rfl, rfl, rfl, rfl, trivial⟩, ?_⟩)
           refine stepV_offu (i := 68) rfl hF rfl rfl rfl fun a hF => ?_
           refine stepV_off (i := 69) rfl hF rfl rfl rfl rfl fun a hF => ?_
           refine stepV (i := 70) rfl hF (fun w hS => Y.pick_t hF rfl rfl rfl) rfl fun a hF => ?_
           exact toTailV ⟨hF.weak ⟨rfl, rfl, rfl, rfl, rfl, rfl, rfl, rfl, rfl, rfl, rfl, rfl, rfl, rfl, rfl, rfl, rfl, trivial⟩, hS.weak ⟨rfl, rfl, rfl, rfl, rfl, rfl, rfl, rfl, rfl, trivial⟩⟩
         ·as_aux_lemma =>
           skip
           replace ht_2 := cond_f ht_2 hbv_5
           obtain rfl := some_inj ht_2
           rcases bcases (rv_12.2 != 0) with hbv_6 | hbv_6
           ·as_aux_lemma =>
             skip
             replace ht_3 := cond_t ht_3 hbv_6
             obtain rfl := some_inj ht_3
             replace ht_4 := cond_t ht_4 rfl
             obtain rfl := some_inj ht_4
             replace ht_5 := cond_t ht_5 rfl
             obtain rfl := some_inj ht_5
             replace ht_6 := cond_t ht_6 rfl
             obtain rfl := some_inj ht_6
             replace ht_7 := cond_t ht_7 rfl
             obtain rfl := some_inj ht_7
             replace ht_9 := cond_t ht_9 rfl
             obtain rfl := some_inj ht_9
             refine stepV (i := 0) rfl hF (fun w hS => Y.move hF rfl) rfl fun a hF => ?_
             refine stepV (i := 1) rfl hF (fun w hS => Y.neq hF rfl rfl) rfl fun a hF => ?_
             refine stepV (i := 2) rfl hF (fun w hS => Y.move hF rfl) rfl fun a hF => ?_
             refine stepV_on (i := 3) rfl hF rfl rfl hbv_4 (fun w hS => Y.move hF rfl) rfl fun a hF => ?_
             refine stepV_on (i := 4) rfl hF rfl rfl hbv_4 (fun w hS => Y.neq hF rfl rfl) rfl fun a hF => ?_
             refine stepV (i := 5) rfl hF (fun w hS => Y.pick_f hF rfl hbv_4 rfl) rfl fun a hF => ?_
             refine stepV (i := 6) rfl hF (fun w hS => Y.move hF rfl) rfl fun a hF => ?_
             refine stepV_on (i := 7) rfl hF rfl rfl hbv_5 (fun w hS => Y.move hF rfl) rfl fun a hF => ?_
             refine stepV_on (i := 8) rfl hF rfl rfl hbv_5 (fun w hS => Y.neq hF rfl rfl) rfl fun a hF => ?_
             refine stepV (i := 9) rfl hF (fun w hS => Y.pick_f hF rfl hbv_5 rfl) rfl fun a hF => ?_
             refine stepV (i := 10) rfl hF (fun w hS => Y.move hF rfl) rfl fun a hF => ?_
             refine stepV_off (i := 11) rfl hF rfl rfl hbv_6 rfl fun a hF => ?_
             refine stepV_off (i := 12) rfl hF rfl rfl hbv_6 rfl fun a hF => ?_
             refine stepV (i := 13) rfl hF (fun w hS => Y.pick_t hF rfl hbv_6 rfl) rfl fun a hF => ?_
             refine stepV (i := 14) rfl hF (fun w hS => Y.move hF rfl) rfl fun a hF => ?_
             refine stepV_off (i := 15) rfl hF rfl rfl rfl rfl fun a hF => ?_
             refine stepV_off (i := 16) rfl hF rfl rfl rfl rfl fun a hF => ?_
             refine stepV (i := 17) rfl hF (fun w hS => Y.pick_t hF rfl rfl rfl) rfl fun a hF => ?_
             refine stepV (i := 18) rfl hF (fun w hS => Y.move hF rfl) rfl fun a hF => ?_
             refine stepV_off (i := 19) rfl hF rfl rfl rfl rfl fun a hF => ?_
             refine stepV_off (i := 20) rfl hF rfl rfl rfl rfl fun a hF => ?_
             refine stepV_off (i := 21) rfl hF rfl rfl rfl rfl fun a hF => ?_
             refine stepV_off (i := 22) rfl hF rfl rfl rfl rfl fun a hF => ?_
             refine stepV_off (i := 23) rfl hF rfl rfl rfl rfl fun a hF => ?_
             refine stepV_off (i := 24) rfl hF rfl rfl rfl rfl fun a hF => ?_
             refine stepV_off (i := 25) rfl hF rfl rfl rfl rfl fun a hF => ?_
             refine oneV (i := 26) rfl ?_ trivial
             refine guard_off hF rfl rfl rfl rfl fun a hF => nil (then_n ⟨hS.weak ⟨rfl, rfl, rfl, rfl, rfl, rfl, rfl, rfl, rfl, trivial⟩, ?_⟩)
             refine stepV_off (i := 27) rfl hF rfl rfl rfl rfl fun a hF => ?_
             refine stepV (i := 28) rfl hF (fun w hS => Y.pick_t hF rfl rfl rfl) rfl fun a hF => ?_
             refine stepV (i := 29) rfl hF (fun w hS => Y.move hF rfl) rfl fun a hF => ?_
             refine stepV_off (i := 30) rfl hF rfl rfl rfl rfl fun a hF => ?_
             refine stepV_off (i := 31) rfl hF rfl rfl rfl rfl fun a hF => ?_
             refine stepV_off (i := 32) rfl hF rfl rfl rfl rfl fun a hF => ?_
             refine stepV_off (i := 33) rfl hF rfl rfl rfl rfl fun a hF => ?_
             refine stepV_off (i := 34) rfl hF rfl rfl rfl rfl fun a hF => ?_
             refine stepV_off (i := 35) rfl hF rfl rfl rfl rfl fun a hF => ?_
             refine stepV_off (i := 36) rfl hF rfl rfl rfl rfl fun a hF => ?_
             refine stepV_off (i := 37) rfl hF rfl rfl rfl rfl fun a hF => ?_
             refine stepV_off (i := 38) rfl hF rfl rfl rfl rfl fun a hF => ?_
             refine stepV_off (i := 39) rfl hF rfl rfl rfl rfl fun a hF => ?_
             refine stepV_off (i := 40) rfl hF rfl rfl rfl rfl fun a hF => ?_
             refine oneV (i := 41) rfl ?_ trivial
             refine guard_off hF rfl rfl rfl rfl fun a hF => nil (then_n ⟨hS.weak ⟨rfl, rfl, rfl, rfl, rfl, rfl, rfl, rfl, rfl, trivial⟩, ?_⟩)
             refine oneV (i := 42) rfl ?_ trivial
             refine guard_off hF rfl rfl rfl rfl fun a hF => nil (then_n ⟨hS.weak ⟨rfl, rfl, rfl, rfl, rfl, rfl, rfl, rfl, rfl, trivial⟩, ?_⟩)
             refine stepV_off (i := 43) rfl hF rfl rfl rfl rfl fun a hF => ?_
             refine stepV (i := 44) rfl hF (fun w hS => Y.pick_t hF rfl rfl rfl) rfl fun a hF => ?_
             refine stepV (i := 45) rfl hF (fun w hS => Y.move hF rfl) rfl fun a hF => ?_
             refine stepV_off (i := 46) rfl hF rfl rfl rfl rfl fun a hF => ?_
             refine stepV_off (i := 47) rfl hF rfl rfl rfl rfl fun a hF => ?_
             refine stepV_off (i := 48) rfl hF rfl rfl rfl rfl fun a hF => ?_
             refine stepV_off (i := 49) rfl hF rfl rfl rfl rfl fun a hF => ?_
             refine stepV_off (i := 50) rfl hF rfl rfl rfl rfl fun a hF => ?_
             refine stepV_off (i := 51) rfl hF rfl rfl rfl rfl fun a hF => ?_
             refine stepV_off (i := 52) rfl hF rfl rfl rfl rfl fun a hF => ?_
             refine stepV_off (i := 53) rfl hF rfl rfl rfl rfl fun a hF => ?_
             refine stepV_off (i := 54) rfl hF rfl rfl rfl rfl fun a hF => ?_
             refine stepV_off (i := 55) rfl hF rfl rfl rfl rfl fun a hF => ?_
             refine stepV_off (i := 56) rfl hF rfl rfl rfl rfl fun a hF => ?_
             refine oneV (i := 57) rfl ?_ trivial
             refine guard_off hF rfl rfl rfl rfl fun a hF => nil (then_n ⟨hS.weak ⟨rfl, rfl, rfl, rfl, rfl, rfl, rfl, rfl, rfl, trivial⟩, ?_⟩)
             refine oneV (i := 58) rfl ?_ trivial
             refine guard_off hF rfl rfl rfl rfl fun a hF => nil (then_n ⟨hS.weak ⟨rfl, rfl, rfl, rfl, rfl, rfl, rfl, rfl, rfl, trivial⟩, ?_⟩)
             refine stepV_off (i := 59) rfl hF rfl rfl rfl rfl fun a hF => ?_
             refine stepV (i := 60) rfl hF (fun w hS => Y.pick_t hF rfl rfl rfl) rfl fun a hF => ?_
             refine stepV (i := 61) rfl hF (fun w hS => Y.move hF rfl) rfl fun a hF => ?_
             refine stepV_off (i := 62) rfl hF rfl rfl rfl rfl fun a hF => ?_
             refine stepV_off (i := 63) rfl hF rfl rfl rfl rfl fun a hF => ?_
             refine stepV_off (i := 64) rfl hF rfl rfl rfl rfl fun a hF => ?_
             refine stepV_off (i := 65) rfl hF rfl rfl rfl rfl fun a hF => ?_
             refine stepV_offu (i := 66) rfl hF rfl rfl rfl fun a hF => ?_
             refine oneV (i := 67) rfl ?_ trivial
             refine guard_offu hF rfl rfl rfl fun a hF => nil (then_n ⟨hS.weak ⟨rfl, rfl, rfl, rfl, rfl, rfl, rfl, rfl, rfl, trivial⟩, ?_⟩)
             refine stepV_offu (i := 68) rfl hF rfl rfl rfl fun a hF => ?_
             refine stepV_off (i := 69) rfl hF rfl rfl rfl rfl fun a hF => ?_
             refine stepV (i := 70) rfl hF (fun w hS => Y.pick_t hF rfl rfl rfl) rfl fun a hF => ?_
             exact toTailV ⟨hF.weak ⟨rfl, rfl, rfl, rfl, rfl, rfl, rfl, rfl, rfl, rfl, rfl, rfl, rfl, rfl, rfl, rfl, rfl, trivial⟩, hS.weak ⟨rfl, rfl, rfl, rfl, rfl, rfl, rfl, rfl, rfl, trivial⟩⟩
           ·as_aux_lemma =>
             skip
             replace ht_3 := cond_f ht_3 hbv_6
             obtain rfl := some_inj ht_3
             rcases bcases (rv_13.2 != 0) with hbv_7 | hbv_7
             ·as_aux_lemma =>
               skip
               replace ht_4 := cond_t ht_4 hbv_7
               obtain rfl := some_inj ht_4
               replace ht_5 := cond_t ht_5 rfl
               obtain rfl := some_inj ht_5
               replace ht_6 := cond_t ht_6 rfl
               obtain rfl := some_inj ht_6
               replace ht_7 := cond_t ht_7 rfl
               obtain rfl := some_inj ht_7
               replace ht_9 := cond_t ht_9 rfl
               obtain rfl := some_inj ht_9
               refine stepV (i := 0) rfl hF (fun w hS => Y.move hF rfl) rfl fun a hF => ?_
               refine stepV (i := 1) rfl hF (fun w hS => Y.neq hF rfl rfl) rfl fun a hF => ?_
               refine stepV (i := 2) rfl hF (fun w hS => Y.move hF rfl) rfl fun a hF => ?_
               refine stepV_on (i := 3) rfl hF rfl rfl hbv_4 (fun w hS => Y.move hF rfl) rfl fun a hF => ?_
               refine stepV_on (i := 4) rfl hF rfl rfl hbv_4 (fun w hS => Y.neq hF rfl rfl) rfl fun a hF => ?_
               refine stepV (i := 5) rfl hF (fun w hS => Y.pick_f hF rfl hbv_4 rfl) rfl fun a hF => ?_
               refine stepV (i := 6) rfl hF (fun w hS => Y.move hF rfl) rfl fun a hF => ?_
               refine stepV_on (i := 7) rfl hF rfl rfl hbv_5 (fun w hS => Y.move hF rfl) rfl fun a hF => ?_
               refine stepV_on (i := 8) rfl hF rfl rfl hbv_5 (fun w hS => Y.neq hF rfl rfl) rfl fun a hF => ?_
               refine stepV (i := 9) rfl hF (fun w hS => Y.pick_f hF rfl hbv_5 rfl) rfl fun a hF => ?_
               refine stepV (i := 10) rfl hF (fun w hS => Y.move hF rfl) rfl fun a hF => ?_
               refine stepV_on (i := 11) rfl hF rfl rfl hbv_6 (fun w hS => Y.move hF rfl) rfl fun a hF => ?_
               refine stepV_on (i := 12) rfl hF rfl rfl hbv_6 (fun w hS => Y.neq hF rfl rfl) rfl fun a hF => ?_
               refine stepV (i := 13) rfl hF (fun w hS => Y.pick_f hF rfl hbv_6 rfl) rfl fun a hF => ?_
               refine stepV (i := 14) rfl hF (fun w hS => Y.move hF rfl) rfl fun a hF => ?_
               refine stepV_off (i := 15) rfl hF rfl rfl hbv_7 rfl fun a hF => ?_
               refine stepV_off (i := 16) rfl hF rfl rfl hbv_7 rfl fun a hF => ?_
               refine stepV (i := 17) rfl hF (fun w hS => Y.pick_t hF rfl hbv_7 rfl) rfl fun a hF => ?_
               refine stepV (i := 18) rfl hF (fun w hS => Y.move hF rfl) rfl fun a hF => ?_
               refine stepV_off (i := 19) rfl hF rfl rfl rfl rfl fun a hF => ?_
               refine stepV_off (i := 20) rfl hF rfl rfl rfl rfl fun a hF => ?_
               refine stepV_off (i := 21) rfl hF rfl rfl rfl rfl fun a hF => ?_
               refine stepV_off (i := 22) rfl hF rfl rfl rfl rfl fun a hF => ?_
               refine stepV_off (i := 23) rfl hF rfl rfl rfl rfl fun a hF => ?_
               refine stepV_off (i := 24) rfl hF rfl rfl rfl rfl fun a hF => ?_
               refine stepV_off (i := 25) rfl hF rfl rfl rfl rfl fun a hF => ?_
               refine oneV (i := 26) rfl ?_ trivial
               refine guard_off hF rfl rfl rfl rfl fun a hF => nil (then_n ⟨hS.weak ⟨rfl, rfl, rfl, rfl, rfl, rfl, rfl, rfl, rfl, trivial⟩, ?_⟩)
               refine stepV_off (i := 27) rfl hF rfl rfl rfl rfl fun a hF => ?_
               refine stepV (i := 28) rfl hF (fun w hS => Y.pick_t hF rfl rfl rfl) rfl fun a hF => ?_
               refine stepV (i := 29) rfl hF (fun w hS => Y.move hF rfl) rfl fun a hF => ?_
               refine stepV_off (i := 30) rfl hF rfl rfl rfl rfl fun a hF => ?_
               refine stepV_off (i := 31) rfl hF rfl rfl rfl rfl fun a hF => ?_
               refine stepV_off (i := 32) rfl hF rfl rfl rfl rfl fun a hF => ?_
               refine stepV_off (i := 33) rfl hF rfl rfl rfl rfl fun a hF => ?_
               refine stepV_off (i := 34) rfl hF rfl rfl rfl rfl fun a hF => ?_
               refine stepV_off (i := 35) rfl hF rfl rfl rfl rfl fun a hF => ?_
               refine stepV_off (i := 36) rfl hF rfl rfl rfl rfl fun a hF => ?_
               refine stepV_off (i := 37) rfl hF rfl rfl rfl rfl fun a hF => ?_
               refine stepV_off (i := 38) rfl hF rfl rfl rfl rfl fun a hF => ?_
               refine stepV_off (i := 39) rfl hF rfl rfl rfl rfl fun a hF => ?_
               refine stepV_off (i := 40) rfl hF rfl rfl rfl rfl fun a hF => ?_
               refine oneV (i := 41) rfl ?_ trivial
               refine guard_off hF rfl rfl rfl rfl fun a hF => nil (then_n ⟨hS.weak ⟨rfl, rfl, rfl, rfl, rfl, rfl, rfl, rfl, rfl, trivial⟩, ?_⟩)
               refine oneV (i := 42) rfl ?_ trivial
               refine guard_off hF rfl rfl rfl rfl fun a hF => nil (then_n ⟨hS.weak ⟨rfl, rfl, rfl, rfl, rfl, rfl, rfl, rfl, rfl, trivial⟩, ?_⟩)
               refine stepV_off (i := 43) rfl hF rfl rfl rfl rfl fun a hF => ?_
               refine stepV (i := 44) rfl hF (fun w hS => Y.pick_t hF rfl rfl rfl) rfl fun a hF => ?_
               refine stepV (i := 45) rfl hF (fun w hS => Y.move hF rfl) rfl fun a hF => ?_
               refine stepV_off (i := 46) rfl hF rfl rfl rfl rfl fun a hF => ?_
               refine stepV_off (i := 47) rfl hF rfl rfl rfl rfl fun a hF => ?_
               refine stepV_off (i := 48) rfl hF rfl rfl rfl rfl fun a hF => ?_
               refine stepV_off (i := 49) rfl hF rfl rfl rfl rfl fun a hF => ?_
               refine stepV_off (i := 50) rfl hF rfl rfl rfl rfl fun a hF => ?_
               refine stepV_off (i := 51) rfl hF rfl rfl rfl rfl fun a hF => ?_
               refine stepV_off (i := 52) rfl hF rfl rfl rfl rfl fun a hF => ?_
               refine stepV_off (i := 53) rfl hF rfl rfl rfl rfl fun a hF => ?_
               refine stepV_off (i := 54) rfl hF rfl rfl rfl rfl fun a hF => ?_
               refine stepV_off (i := 55) rfl hF rfl rfl rfl rfl fun a hF => ?_
               refine stepV_off (i := 56) rfl hF rfl rfl rfl rfl fun a hF => ?_
               refine oneV (i := 57) rfl ?_ trivial
               refine guard_off hF rfl rfl rfl rfl fun a hF => nil (then_n ⟨hS.weak ⟨rfl, rfl, rfl, rfl, rfl, rfl, rfl, rfl, rfl, trivial⟩, ?_⟩)
               refine oneV (i := 58) rfl ?_ trivial
               refine guard_off hF rfl rfl rfl rfl fun a hF => nil (then_n ⟨hS.weak ⟨rfl, rfl, rfl, rfl, rfl, rfl, rfl, rfl, rfl, trivial⟩, ?_⟩)
               refine stepV_off (i := 59) rfl hF rfl rfl rfl rfl fun a hF => ?_
               refine stepV (i := 60) rfl hF (fun w hS => Y.pick_t hF rfl rfl rfl) rfl fun a hF => ?_
               refine stepV (i := 61) rfl hF (fun w hS => Y.move hF rfl) rfl fun a hF => ?_
               refine stepV_off (i := 62) rfl hF rfl rfl rfl rfl fun a hF => ?_
               refine stepV_off (i := 63) rfl hF rfl rfl rfl rfl fun a hF => ?_
               refine stepV_off (i := 64) rfl hF rfl rfl rfl rfl fun a hF => ?_
               refine stepV_off (i := 65) rfl hF rfl rfl rfl rfl fun a hF => ?_
               refine stepV_offu (i := 66) rfl hF rfl rfl rfl fun a hF => ?_
               refine oneV (i := 67) rfl ?_ trivial
               refine guard_offu hF rfl rfl rfl fun a hF => nil (then_n ⟨hS.weak ⟨rfl, rfl, rfl, rfl, rfl, rfl, rfl, rfl, rfl, trivial⟩, ?_⟩)
               refine stepV_offu (i := 68) rfl hF rfl rfl rfl fun a hF => ?_
               refine stepV_off (i := 69) rfl hF rfl rfl rfl rfl fun a hF => ?_
               refine stepV (i := 70) rfl hF (fun w hS => Y.pick_t hF rfl rfl rfl) rfl fun a hF => ?_
               exact toTailV ⟨hF.weak ⟨rfl, rfl, rfl, rfl, rfl, rfl, rfl, rfl, rfl, rfl, rfl, rfl, rfl, rfl, rfl, rfl, rfl, trivial⟩, hS.weak ⟨rfl, rfl, rfl, rfl, rfl, rfl, rfl, rfl, rfl, trivial⟩⟩
             ·as_aux_lemma =>
               skip
               replace ht_4 := cond_f ht_4 hbv_7
               obtain rfl := some_inj ht_4
               rcases bcases (rv_14.2 != 0) with hbv_8 | hbv_8
               ·as_aux_lemma =>
                 skip
                 replace ht_5 := cond_t ht_5 hbv_8
                 obtain rfl := some_inj ht_5
                 replace ht_6 := cond_t ht_6 rfl
                 obtain rfl := some_inj ht_6
                 replace ht_7 := cond_t ht_7 rfl
                 obtain rfl := some_inj ht_7
                 replace ht_9 := cond_t ht_9 rfl
                 obtain rfl := some_inj ht_9
                 refine stepV (i := 0) rfl hF (fun w hS => Y.move hF rfl) rfl fun a hF => ?_
                 refine stepV (i := 1) rfl hF (fun w hS => Y.neq hF rfl rfl) rfl fun a hF => ?_
                 refine stepV (i := 2) rfl hF (fun w hS => Y.move hF rfl) rfl fun a hF => ?_
                 refine stepV_on (i := 3) rfl hF rfl rfl hbv_4 (fun w hS => Y.move hF rfl) rfl fun a hF => ?_
                 refine stepV_on (i := 4) rfl hF rfl rfl hbv_4 (fun w hS => Y.neq hF rfl rfl) rfl fun a hF => ?_
                 refine stepV (i := 5) rfl hF (fun w hS => Y.pick_f hF rfl hbv_4 rfl) rfl fun a hF => ?_
                 refine stepV (i := 6) rfl hF (fun w hS => Y.move hF rfl) rfl fun a hF => ?_
                 refine stepV_on (i := 7) rfl hF rfl rfl hbv_5 (fun w hS => Y.move hF rfl) rfl fun a hF => ?_
                 refine stepV_on (i := 8) rfl hF rfl rfl hbv_5 (fun w hS => Y.neq hF rfl rfl) rfl fun a hF => ?_
                 refine stepV (i := 9) rfl hF (fun w hS => Y.pick_f hF rfl hbv_5 rfl) rfl fun a hF => ?_
                 refine stepV (i := 10) rfl hF (fun w hS => Y.move hF rfl) rfl fun a hF => ?_
                 refine stepV_on (i := 11) rfl hF rfl rfl hbv_6 (fun w hS => Y.move hF rfl) rfl fun a hF => ?_
                 refine stepV_on (i := 12) rfl hF rfl rfl hbv_6 (fun w hS => Y.neq hF rfl rfl) rfl fun a hF => ?_
                 refine stepV (i := 13) rfl hF (fun w hS => Y.pick_f hF rfl hbv_6 rfl) rfl fun a hF => ?_
                 refine stepV (i := 14) rfl hF (fun w hS => Y.move hF rfl) rfl fun a hF => ?_
                 refine stepV_on (i := 15) rfl hF rfl rfl hbv_7 (fun w hS => Y.move hF rfl) rfl fun a hF => ?_
                 refine stepV_on (i := 16) rfl hF rfl rfl hbv_7 (fun w hS => Y.neq hF rfl rfl) rfl fun a hF => ?_
                 refine stepV (i := 17) rfl hF (fun w hS => Y.pick_f hF rfl hbv_7 rfl) rfl fun a hF => ?_
                 refine stepV (i := 18) rfl hF (fun w hS => Y.move hF rfl) rfl fun a hF => ?_
                 refine stepV_off (i := 19) rfl hF rfl rfl hbv_8 rfl fun a hF => ?_
                 refine stepV_off (i := 20) rfl hF rfl rfl hbv_8 rfl fun a hF => ?_
                 refine stepV_off (i := 21) rfl hF rfl rfl hbv_8 rfl fun a hF => ?_
                 refine stepV_off (i := 22) rfl hF rfl rfl hbv_8 rfl fun a hF => ?_
                 refine stepV_off (i := 23) rfl hF rfl rfl hbv_8 rfl fun a hF => ?_
                 refine stepV_off (i := 24) rfl hF rfl rfl hbv_8 rfl fun a hF => ?_
                 refine stepV_off (i := 25) rfl hF rfl rfl hbv_8 rfl fun a hF => ?_
                 refine oneV (i := 26) rfl ?_ trivial
                 refine guard_off hF rfl rfl hbv_8 rfl fun a hF => nil (then_n ⟨hS.weak ⟨rfl, rfl, rfl, rfl, rfl, rfl, rfl, rfl, rfl, trivial⟩, ?_⟩)
                 refine stepV_off (i := 27) rfl hF rfl rfl hbv_8 rfl fun a hF => ?_
                 refine stepV (i := 28) rfl hF (fun w hS => Y.pick_t hF rfl hbv_8 rfl) rfl fun a hF => ?_
                 refine stepV (i := 29) rfl hF (fun w hS => Y.move hF rfl) rfl fun a hF => ?_
                 refine stepV_off (i := 30) rfl hF rfl rfl rfl rfl fun a hF => ?_
                 refine stepV_off (i := 31) rfl hF rfl rfl rfl rfl fun a hF => ?_
                 refine stepV_off (i := 32) rfl hF rfl rfl rfl rfl fun a hF => ?_
                 refine stepV_off (i := 33) rfl hF rfl rfl rfl rfl fun a hF => ?_
                 refine stepV_off (i := 34) rfl hF rfl rfl rfl rfl fun a hF => ?_
                 refine stepV_off (i := 35) rfl hF rfl rfl rfl rfl fun a hF => ?_
                 refine stepV_off (i := 36) rfl hF rfl rfl rfl rfl fun a hF => ?_
                 refine stepV_off (i := 37) rfl hF rfl rfl rfl rfl fun a hF => ?_
                 refine stepV_off (i := 38) rfl hF rfl rfl rfl rfl fun a hF => ?_
                 refine stepV_off (i := 39) rfl hF rfl rfl rfl rfl fun a hF => ?_
                 refine stepV_off (i := 40) rfl hF rfl rfl rfl rfl fun a hF => ?_
                 refine oneV (i := 41) rfl ?_ trivial
                 refine guard_off hF rfl rfl rfl rfl fun a hF => nil (then_n ⟨hS.weak ⟨rfl, rfl, rfl, rfl, rfl, rfl, rfl, rfl, rfl, trivial⟩, ?_⟩)
                 refine oneV (i := 42) rfl ?_ trivial
                 refine guard_off hF rfl rfl rfl rfl fun a hF => nil (then_n ⟨hS.weak ⟨rfl, rfl, rfl, rfl, rfl, rfl, rfl, rfl, rfl, trivial⟩, ?_⟩)
                 refine stepV_off (i := 43) rfl hF rfl rfl rfl rfl fun a hF => ?_
                 refine stepV (i := 44) rfl hF (fun w hS => Y.pick_t hF rfl rfl rfl) rfl fun a hF => ?_
                 refine stepV (i := 45) rfl hF (fun w hS => Y.move hF rfl) rfl fun a hF => ?_
                 refine stepV_off (i := 46) rfl hF rfl rfl rfl rfl fun a hF => ?_
                 refine stepV_off (i := 47) rfl hF rfl rfl rfl rfl fun a hF => ?_
                 refine stepV_off (i := 48) rfl hF rfl rfl rfl rfl fun a hF => ?_
                 refine stepV_off (i := 49) rfl hF rfl rfl rfl rfl fun a hF => ?_
                 refine stepV_off (i := 50) rfl hF rfl rfl rfl rfl fun a hF => ?_
                 refine stepV_off (i := 51) rfl hF rfl rfl rfl rfl fun a hF => ?_
                 refine stepV_off (i := 52) rfl hF rfl rfl rfl rfl fun a hF => ?_
                 refine stepV_off (i := 53) rfl hF rfl rfl rfl rfl fun a hF => ?_
                 refine stepV_off (i := 54) rfl hF rfl rfl rfl rfl fun a hF => ?_
                 refine stepV_off (i := 55) rfl hF rfl rfl rfl rfl fun a hF => ?_
                 refine stepV_off (i := 56) rfl hF rfl rfl rfl rfl fun a hF => ?_
                 refine oneV (i := 57) rfl ?_ trivial
                 refine guard_off hF rfl rfl rfl rfl fun a hF => nil (then_n ⟨hS.weak ⟨rfl, rfl, rfl, rfl, rfl, rfl, rfl, rfl, rfl, trivial⟩, ?_⟩)
                 refine oneV (i := 58) rfl ?_ trivial
                 refine guard_off hF rfl rfl rfl rfl fun a hF => nil (then_n ⟨hS.weak ⟨rfl, rfl, rfl, rfl, rfl, rfl, rfl, rfl, rfl, trivial⟩, ?_⟩)
                 refine stepV_off (i := 59) rfl hF rfl rfl rfl rfl fun a hF => ?_
                 refine stepV (i := 60) rfl hF (fun w hS => Y.pick_t hF rfl rfl rfl) rfl fun a hF => ?_
                 refine stepV (i := 61) rfl hF (fun w hS => Y.move hF rfl) rfl fun a hF => ?_
                 refine stepV_off (i := 62) rfl hF rfl rfl rfl rfl fun a hF => ?_
                 refine stepV_off (i := 63) rfl hF rfl rfl rfl rfl fun a hF => ?_
                 refine stepV_off (i := 64) rfl hF rfl rfl rfl rfl fun a hF => ?_
                 refine stepV_off (i := 65) rfl hF rfl rfl rfl rfl fun a hF => ?_
                 refine stepV_offu (i := 66) rfl hF rfl rfl rfl fun a hF => ?_
                 refine oneV (i := 67) rfl ?_ trivial
                 refine guard_offu hF rfl rfl rfl fun a hF => nil (then_n ⟨hS.weak ⟨rfl, rfl, rfl, rfl, rfl, rfl, rfl, rfl, rfl, trivial⟩, ?_⟩)
                 refine stepV_offu (i := 68) rfl hF rfl rfl rfl fun a hF => ?_
                 refine stepV_off (i := 69) rfl hF rfl rfl rfl rfl fun a hF => ?_
                 refine stepV (i := 70) rfl hF (fun w hS => Y.pick_t hF rfl rfl rfl) rfl fun a hF => ?_
                 exact toTailV ⟨hF.weak ⟨rfl, rfl, rfl, rfl, rfl, rfl, rfl, rfl, rfl, rfl, rfl, rfl, rfl, rfl, rfl, rfl, rfl, trivial⟩, hS.weak ⟨rfl, rfl, rfl, rfl, rfl, rfl, rfl, rfl, rfl, trivial⟩⟩
               ·as_aux_lemma =>
                 skip
                 replace ht_5 := cond_f ht_5 hbv_8
                 obtain ⟨rv_15, hx_15, ht_5⟩ := bind_some ht_5
                 obtain rfl := some_inj ht_5
                 rcases bcases (!([rv_12.1.Low, rv_12.1.High] == [rv_15.Low, rv_15.High])) with hbv_9 | hbv_9
                 ·as_aux_lemma =>
                   skip
                   replace ht_6 := cond_t ht_6 hbv_9
                   obtain rfl := some_inj ht_6
                   replace ht_7 := cond_t ht_7 rfl
                   obtain rfl := some_inj ht_7
                   replace ht_9 := cond_t ht_9 rfl
                   obtain rfl := some_inj ht_9
                   refine stepV (i := 0) rfl hF (fun w hS => Y.move hF rfl) rfl fun a hF => ?_
                   refine stepV (i := 1) rfl hF (fun w hS => Y.neq hF rfl rfl) rfl fun a hF => ?_
                   refine stepV (i := 2) rfl hF (fun w hS => Y.move hF rfl) rfl fun a hF => ?_
                   refine stepV_on (i := 3) rfl hF rfl rfl hbv_4 (fun w hS => Y.move hF rfl) rfl fun a hF => ?_
                   refine stepV_on (i := 4) rfl hF rfl rfl hbv_4 (fun w hS => Y.neq hF rfl rfl) rfl fun a hF => ?_
                   refine stepV (i := 5) rfl hF (fun w hS => Y.pick_f hF rfl hbv_4 rfl) rfl fun a hF => ?_
                   refine stepV (i := 6) rfl hF (fun w hS => Y.move hF rfl) rfl fun a hF => ?_
                   refine stepV_on (i := 7) rfl hF rfl rfl hbv_5 (fun w hS => Y.move hF rfl) rfl fun a hF => ?_
                   refine stepV_on (i := 8) rfl hF rfl rfl hbv_5 (fun w hS => Y.neq hF rfl rfl) rfl fun a hF => ?_
                   refine stepV (i := 9) rfl hF (fun w hS => Y.pick_f hF rfl hbv_5 rfl) rfl fun a hF => ?_
                   refine stepV (i := 10) rfl hF (fun w hS => Y.move hF rfl) rfl fun a hF => ?_
                   refine stepV_on (i := 11) rfl hF rfl rfl hbv_6 (fun w hS => Y.move hF rfl) rfl fun a hF => ?_
                   refine stepV_on (i := 12) rfl hF rfl rfl hbv_6 (fun w hS => Y.neq hF rfl rfl) rfl fun a hF => ?_
                   refine stepV (i := 13) rfl hF (fun w hS => Y.pick_f hF rfl hbv_6 rfl) rfl fun a hF => ?_
                   refine stepV (i := 14) rfl hF (fun w hS => Y.move hF rfl) rfl fun a hF => ?_
                   refine stepV_on (i := 15) rfl hF rfl rfl hbv_7 (fun w hS => Y.move hF rfl) rfl fun a hF => ?_
                   refine stepV_on (i := 16) rfl hF rfl rfl hbv_7 (fun w hS => Y.neq hF rfl rfl) rfl fun a hF => ?_
                   refine stepV (i := 17) rfl hF (fun w hS => Y.pick_f hF rfl hbv_7 rfl) rfl fun a hF => ?_
                   refine stepV (i := 18) rfl hF (fun w hS => Y.move hF rfl) rfl fun a hF => ?_
                   refine stepV_on (i := 19) rfl hF rfl rfl hbv_8 (fun w hS => Y.loadNL 7 sz_34 hF rfl hS rfl rfl rfl) rfl fun a hF => ?_
                   refine stepV_on (i := 20) rfl hF rfl rfl hbv_8 (fun w hS => Y.fieldAddr fo_34_1 hF rfl) rfl fun a hF => ?_
                   refine stepV_on (i := 21) rfl hF rfl rfl hbv_8 (fun w hS => Y.load1L 6 sz_3 hF rfl hS rfl rfl) rfl fun a hF => ?_
                   refine stepV_on (i := 22) rfl hF rfl rfl hbv_8 (fun w hS => Y.neg hF rfl) rfl fun a hF => ?_
                   refine stepV_on (i := 23) rfl hF rfl rfl hbv_8 (fun w hS => Y.fieldAddr fo_34_0 hF rfl) rfl fun a hF => ?_
                   refine stepV_on (i := 24) rfl hF rfl rfl hbv_8 (fun w hS => Y.load1L 6 sz_3 hF rfl hS rfl rfl) rfl fun a hF => ?_
                   refine stepV_on (i := 25) rfl hF rfl rfl hbv_8 (fun w hS => Y.neg hF rfl) rfl fun a hF => ?_
                   refine oneV (i := 26) rfl ?_ trivial
                   refine guard_on hF rfl rfl hbv_8 ?_
                   refine O.callP (us := [.int .i64 (wr (0 - rv_11.1.High)), .int .i64 (wr (0 - rv_11.1.Low))]) ca_37 hF hS (remontoirref00_To_ok hS.stab (wr (0 - rv_11.1.High)) (wr (0 - rv_11.1.Low)) rv_15 hx_15) rfl rfl fun a w hF hS => ?_
                   refine nil (then_n ⟨hS.weak ⟨rfl, rfl, rfl, rfl, rfl, rfl, rfl, rfl, rfl, trivial⟩, ?_⟩)
                   refine stepV_on (i := 27) rfl hF rfl rfl hbv_8 (fun w hS => Y.nest (fun w => eqT_34.equal (by decide) (l := [rv_12.1.Low, rv_12.1.High]) (m := [rv_15.Low, rv_15.High]) rfl rfl) (fun w => run_eqGuard_agg _ _ _ _ _ _ _ eg_34) hF rfl rfl) rfl fun a hF => ?_
                   refine stepV (i := 28) rfl hF (fun w hS => Y.pick_f hF rfl hbv_8 rfl) rfl fun a hF => ?_
                   refine stepV (i := 29) rfl hF (fun w hS => Y.move hF rfl) rfl fun a hF => ?_
                   refine stepV_off (i := 30) rfl hF rfl rfl hbv_9 rfl fun a hF => ?_
                   refine stepV_off (i := 31) rfl hF rfl rfl hbv_9 rfl fun a hF => ?_
                   refine stepV_off (i := 32) rfl hF rfl rfl hbv_9 rfl fun a hF => ?_
                   refine stepV_off (i := 33) rfl hF rfl rfl hbv_9 rfl fun a hF => ?_
                   refine stepV_off (i := 34) rfl hF rfl rfl hbv_9 rfl fun a hF => ?_
                   refine stepV_off (i := 35) rfl hF rfl rfl hbv_9 rfl fun a hF => ?_
                   refine stepV_off (i := 36) rfl hF rfl rfl hbv_9 rfl fun a hF => ?_
                   refine stepV_off (i := 37) rfl hF rfl rfl hbv_9 rfl fun a hF => ?_
                   refine stepV_off (i := 38) rfl hF rfl rfl hbv_9 rfl fun a hF => ?_
                   refine stepV_off (i := 39) rfl hF rfl rfl hbv_9 rfl fun a hF => ?_
                   refine stepV_off (i := 40) rfl hF rfl rfl hbv_9 rfl fun a hF => ?_
                   refine oneV (i := 41) rfl ?_ trivial
                   refine guard_off hF rfl rfl hbv_9 rfl fun a hF => nil (then_n ⟨hS.weak ⟨rfl, rfl, rfl, rfl, rfl, rfl, rfl, rfl, rfl, trivial⟩, ?_⟩)
                   refine oneV (i := 42) rfl ?_ trivial
                   refine guard_off hF rfl rfl hbv_9 rfl fun a hF => nil (then_n ⟨hS.weak ⟨rfl, rfl, rfl, rfl, rfl, rfl, rfl, rfl, rfl, trivial⟩, ?_⟩)
                   refine stepV_off (i := 43) rfl hF rfl rfl hbv_9 rfl fun a hF => ?_
                   refine stepV (i := 44) rfl hF (fun w hS => Y.pick_t hF rfl hbv_9 rfl) rfl fun a hF => ?_
                   refine stepV (i := 45) rfl hF (fun w hS => Y.move hF rfl) rfl fun a hF => ?_
                   refine stepV_off (i := 46) rfl hF rfl rfl rfl rfl fun a hF => ?_
                   refine stepV_off (i := 47) rfl hF rfl rfl rfl rfl fun a hF => ?_
                   refine stepV_off (i := 48) rfl hF rfl rfl rfl rfl fun a hF => ?_
                   refine stepV_off (i := 49) rfl hF rfl rfl rfl rfl fun a hF => ?_
                   refine stepV_off (i := 50) rfl hF rfl rfl rfl rfl fun a hF => ?_
                   refine stepV_off (i := 51) rfl hF rfl rfl rfl rfl fun a hF => ?_
                   refine stepV_off (i := 52) rfl hF rfl rfl rfl rfl fun a hF => ?_
                   refine stepV_off (i := 53) rfl hF rfl rfl rfl rfl fun a hF => ?_
                   refine stepV_off (i := 54) rfl hF rfl rfl rfl rfl fun a hF => ?_
                   refine stepV_off (i := 55) rfl hF rfl rfl rfl rfl fun a hF => ?_
                   refine stepV_off (i := 56) rfl hF rfl rfl rfl rfl fun a hF => ?_
                   refine oneV (i := 57) rfl ?_ trivial
                   refine guard_off hF rfl rfl rfl rfl fun a hF => nil (then_n ⟨hS.weak ⟨rfl, rfl, rfl, rfl, rfl, rfl, rfl, rfl, rfl, trivial⟩, ?_⟩)
                   refine oneV (i := 58) rfl ?_ trivial
                   refine guard_off hF rfl rfl rfl rfl fun a hF => nil (then_n ⟨hS.weak ⟨rfl, rfl, rfl, rfl, rfl, rfl, rfl, rfl, rfl, trivial⟩, ?_⟩)
                   refine stepV_off (i := 59) rfl hF rfl rfl rfl rfl fun a hF => ?_
                   refine stepV (i := 60) rfl hF (fun w hS => Y.pick_t hF rfl rfl rfl) rfl fun a hF => ?_
                   refine stepV (i := 61) rfl hF (fun w hS => Y.move hF rfl) rfl fun a hF => ?_
                   refine stepV_off (i := 62) rfl hF rfl rfl rfl rfl fun a hF => ?_
                   refine stepV_off (i := 63) rfl hF rfl rfl rfl rfl fun a hF => ?_
                   refine stepV_off (i := 64) rfl hF rfl rfl rfl rfl fun a hF => ?_
                   refine stepV_off (i := 65) rfl hF rfl rfl rfl rfl fun a hF => ?_
                   refine stepV_offu (i := 66) rfl hF rfl rfl rfl fun a hF => ?_
                   refine oneV (i := 67) rfl ?_ trivial
                   refine guard_offu hF rfl rfl rfl fun a hF => nil (then_n ⟨hS.weak ⟨rfl, rfl, rfl, rfl, rfl, rfl, rfl, rfl, rfl, trivial⟩, ?_⟩)
                   refine stepV_offu (i := 68) rfl hF rfl rfl rfl fun a hF => ?_
                   refine stepV_off (i := 69) rfl hF rfl rfl rfl rfl fun a hF => ?_
                   refine stepV (i := 70) rfl hF (fun w hS => Y.pick_t hF rfl rfl rfl) rfl fun a hF => ?_
                   exact toTailV ⟨hF.weak ⟨rfl, rfl, rfl, rfl, rfl, rfl, rfl, rfl, rfl, rfl, rfl, rfl, rfl, rfl, rfl, rfl, rfl, trivial⟩, hS.weak ⟨rfl, rfl, rfl, rfl, rfl, rfl, rfl, rfl, rfl, trivial⟩⟩
                 ·as_aux_lemma =>
                   skip
                   replace ht_6 := cond_f ht_6 hbv_9
                   obtain ⟨rv_16, hx_16, ht_6⟩ := bind_some ht_6
                   obtain ⟨rv_17, hx_17, ht_6⟩ := bind_some ht_6
                   obtain rfl := some_inj ht_6
                   rcases bcases (!rv_17) with hbv_10 | hbv_10
                   ·as_aux_lemma =>
                     skip
                     replace ht_7 := cond_t ht_7 hbv_10
                     obtain rfl := some_inj ht_7
                     replace ht_9 := cond_t ht_9 rfl
                     obtain rfl := some_inj ht_9
                     refine stepV (i := 0) rfl hF (fun w hS => Y.move hF rfl) rfl fun a hF => ?_
                     refine stepV (i := 1) rfl hF (fun w hS => Y.neq hF rfl rfl) rfl fun a hF => ?_
                     refine stepV (i := 2) rfl hF (fun w hS => Y.move hF rfl) rfl fun a hF => ?_
                     refine stepV_on (i := 3) rfl hF rfl rfl hbv_4 (fun w hS => Y.move hF rfl) rfl fun a hF => ?_
                     refine stepV_on (i := 4) rfl hF rfl rfl hbv_4 (fun w hS => Y.neq hF rfl rfl) rfl fun a hF => ?_
                     refine stepV (i := 5) rfl hF (fun w hS => Y.pick_f hF rfl hbv_4 rfl) rfl fun a hF => ?_
                     refine stepV (i := 6) rfl hF (fun w hS => Y.move hF rfl) rfl fun a hF => ?_
                     refine stepV_on (i := 7) rfl hF rfl rfl hbv_5 (fun w hS => Y.move hF rfl) rfl fun a hF => ?_
                     refine stepV_on (i := 8) rfl hF rfl rfl hbv_5 (fun w hS => Y.neq hF rfl rfl) rfl fun a hF => ?_
                     refine stepV (i := 9) rfl hF (fun w hS => Y.pick_f hF rfl hbv_5 rfl) rfl fun a hF => ?_
                     refine stepV (i := 10) rfl hF (fun w hS => Y.move hF rfl) rfl fun a hF => ?_
                     refine stepV_on (i := 11) rfl hF rfl rfl hbv_6 (fun w hS => Y.move hF rfl) rfl fun a hF => ?_
                     refine stepV_on (i := 12) rfl hF rfl rfl hbv_6 (fun w hS => Y.neq hF rfl rfl) rfl fun a hF => ?_
                     refine stepV (i := 13) rfl hF (fun w hS => Y.pick_f hF rfl hbv_6 rfl) rfl fun a hF => ?_
                     refine stepV (i := 14) rfl hF (fun w hS => Y.move hF rfl) rfl fun a hF => ?_
                     refine stepV_on (i := 15) rfl hF rfl rfl hbv_7 (fun w hS => Y.move hF rfl) rfl fun a hF => ?_
                     refine stepV_on (i := 16) rfl hF rfl rfl hbv_7 (fun w hS => Y.neq hF rfl rfl) rfl fun a hF => ?_
                     refine stepV (i := 17) rfl hF (fun w hS => Y.pick_f hF rfl hbv_7 rfl) rfl fun a hF => ?_
                     refine stepV (i := 18) rfl hF (fun w hS => Y.move hF rfl) rfl fun a hF => ?_
                     refine stepV_on (i := 19) rfl hF rfl rfl hbv_8 (fun w hS => Y.loadNL 7 sz_34 hF rfl hS rfl rfl rfl) rfl fun a hF => ?_
                     refine stepV_on (i := 20) rfl hF rfl rfl hbv_8 (fun w hS => Y.fieldAddr fo_34_1 hF rfl) rfl fun a hF => ?_
                     refine stepV_on (i := 21) rfl hF rfl rfl hbv_8 (fun w hS => Y.load1L 6 sz_3 hF rfl hS rfl rfl) rfl fun a hF => ?_
                     refine stepV_on (i := 22) rfl hF rfl rfl hbv_8 (fun w hS => Y.neg hF rfl) rfl fun a hF => ?_
                     refine stepV_on (i := 23) rfl hF rfl rfl hbv_8 (fun w hS => Y.fieldAddr fo_34_0 hF rfl) rfl fun a hF => ?_
                     refine stepV_on (i := 24) rfl hF rfl rfl hbv_8 (fun w hS => Y.load1L 6 sz_3 hF rfl hS rfl rfl) rfl fun a hF => ?_
                     refine stepV_on (i := 25) rfl hF rfl rfl hbv_8 (fun w hS => Y.neg hF rfl) rfl fun a hF => ?_
                     refine oneV (i := 26) rfl ?_ trivial
                     refine guard_on hF rfl rfl hbv_8 ?_
                     refine O.callP (us := [.int .i64 (wr (0 - rv_11.1.High)), .int .i64 (wr (0 - rv_11.1.Low))]) ca_37 hF hS (remontoirref00_To_ok hS.stab (wr (0 - rv_11.1.High)) (wr (0 - rv_11.1.Low)) rv_15 hx_15) rfl rfl fun a w hF hS => ?_
                     refine nil (then_n ⟨hS.weak ⟨rfl, rfl, rfl, rfl, rfl, rfl, rfl, rfl, rfl, trivial⟩, ?_⟩)
                     refine stepV_on (i := 27) rfl hF rfl rfl hbv_8 (fun w hS => Y.nest (fun w => eqT_34.equal (by decide) (l := [rv_12.1.Low, rv_12.1.High]) (m := [rv_15.Low, rv_15.High]) rfl rfl) (fun w => run_eqGuard_agg _ _ _ _ _ _ _ eg_34) hF rfl rfl) rfl fun a hF => ?_
                     refine stepV (i := 28) rfl hF (fun w hS => Y.pick_f hF rfl hbv_8 rfl) rfl fun a hF => ?_
                     refine stepV (i := 29) rfl hF (fun w hS => Y.move hF rfl) rfl fun a hF => ?_
                     refine stepV_on (i := 30) rfl hF rfl rfl hbv_9 (fun w hS => Y.loadNL 6 sz_34 hF rfl hS rfl rfl rfl) rfl fun a hF => ?_
                     refine stepV_on (i := 31) rfl hF rfl rfl hbv_9 (fun w hS => Y.fieldAddr fo_34_0 hF rfl) rfl fun a hF => ?_
                     refine stepV_on (i := 32) rfl hF rfl rfl hbv_9 (fun w hS => Y.load1L 4 sz_3 hF rfl hS rfl rfl) rfl fun a hF => ?_
                     refine stepV_on (i := 33) rfl hF rfl rfl hbv_9 (fun w hS => Y.fieldAddr fo_34_1 hF rfl) rfl fun a hF => ?_
                     refine stepV_on (i := 34) rfl hF rfl rfl hbv_9 (fun w hS => Y.load1L 5 sz_3 hF rfl hS rfl rfl) rfl fun a hF => ?_
                     refine stepV_on (i := 35) rfl hF rfl rfl hbv_9 (fun w hS => Y.sub hF rfl rfl) rfl fun a hF => ?_
                     refine stepV_on (i := 36) rfl hF rfl rfl hbv_9 (fun w hS => Y.fieldAddr fo_34_1 hF rfl) rfl fun a hF => ?_
                     refine stepV_on (i := 37) rfl hF rfl rfl hbv_9 (fun w hS => Y.load1L 4 sz_3 hF rfl hS rfl rfl) rfl fun a hF => ?_
                     refine stepV_on (i := 38) rfl hF rfl rfl hbv_9 (fun w hS => Y.fieldAddr fo_34_0 hF rfl) rfl fun a hF => ?_
                     refine stepV_on (i := 39) rfl hF rfl rfl hbv_9 (fun w hS => Y.load1L 5 sz_3 hF rfl hS rfl rfl) rfl fun a hF => ?_
                     refine stepV_on (i := 40) rfl hF rfl rfl hbv_9 (fun w hS => Y.sub hF rfl rfl) rfl fun a hF => ?_
                     refine oneV (i := 41) rfl ?_ trivial
                     refine guard_on hF rfl rfl hbv_9 ?_
                     refine O.callP (us := [.int .i64 (wr (rv_8.1.Low - rv_9.1.High)), .int .i64 (wr (rv_8.1.High - rv_9.1.Low))]) ca_37 hF hS (remontoirref00_To_ok hS.stab (wr (rv_8.1.Low - rv_9.1.High)) (wr (rv_8.1.High - rv_9.1.Low)) rv_16 hx_16) rfl rfl fun a w hF hS => ?_
                     refine nil (then_n ⟨hS.weak ⟨rfl, rfl, rfl, rfl, rfl, rfl, rfl, rfl, rfl, trivial⟩, ?_⟩)
                     refine oneV (i := 42) rfl ?_ trivial
                     refine guard_on hF rfl rfl hbv_9 ?_
                     refine O.callP (us := [.agg #[.int .i64 rv_11.1.Low, .int .i64 rv_11.1.High], .agg #[.int .i64 rv_16.Low, .int .i64 rv_16.High]]) ca_36 hF hS (remontoirref00_Within_ok hS.stab rv_11.1 rv_16 rv_17 hx_17) rfl rfl fun a w hF hS => ?_
                     refine nil (then_n ⟨hS.weak ⟨rfl, rfl, rfl, rfl, rfl, rfl, rfl, rfl, rfl, trivial⟩, ?_⟩)
                     refine stepV_on (i := 43) rfl hF rfl rfl hbv_9 (fun w hS => Y.not hF rfl) rfl fun a hF => ?_
                     refine stepV (i := 44) rfl hF (fun w hS => Y.pick_f hF rfl hbv_9 rfl) rfl fun a hF => ?_
                     refine stepV (i := 45) rfl hF (fun w hS => Y.move hF rfl) rfl fun a hF => ?_
                     refine stepV_off (i := 46) rfl hF rfl rfl hbv_10 rfl fun a hF => ?_
                     refine stepV_off (i := 47) rfl hF rfl rfl hbv_10 rfl fun a hF => ?_
                     refine stepV_off (i := 48) rfl hF rfl rfl hbv_10 rfl fun a hF => ?_
                     refine stepV_off (i := 49) rfl hF rfl rfl hbv_10 rfl fun a hF => ?_
                     refine stepV_off (i := 50) rfl hF rfl rfl hbv_10 rfl fun a hF => ?_
                     refine stepV_off (i := 51) rfl hF rfl rfl hbv_10 rfl fun a hF => ?_
                     refine stepV_off (i := 52) rfl hF rfl rfl hbv_10 rfl fun a hF => ?_
                     refine stepV_off (i := 53) rfl hF rfl rfl hbv_10 rfl fun a hF => ?_
                     refine stepV_off (i := 54) rfl hF rfl rfl hbv_10 rfl fun a hF => ?_
                     refine stepV_off (i := 55) rfl hF rfl rfl hbv_10 rfl fun a hF => ?_
                     refine stepV_off (i := 56) rfl hF rfl rfl hbv_10 rfl fun a hF => ?_
                     refine oneV (i := 57) rfl ?_ trivial
                     refine guard_off hF rfl rfl hbv_10 rfl fun a hF => nil (then_n ⟨hS.weak ⟨rfl, rfl, rfl, rfl, rfl, rfl, rfl, rfl, rfl, trivial⟩, ?_⟩)
                     refine oneV (i := 58) rfl ?_ trivial
                     refine guard_off hF rfl rfl hbv_10 rfl fun a hF => nil (then_n ⟨hS.weak ⟨rfl, rfl, rfl, rfl, rfl, rfl, rfl, rfl, rfl, trivial⟩, ?_⟩)
                     refine stepV_off (i := 59) rfl hF rfl rfl hbv_10 rfl fun a hF => ?_
                     refine stepV (i := 60) rfl hF (fun w hS => Y.pick_t hF rfl hbv_10 rfl) rfl fun a hF => ?_
                     refine stepV (i := 61) rfl hF (fun w hS => Y.move hF rfl) rfl fun a hF => ?_
                     refine stepV_off (i := 62) rfl hF rfl rfl rfl rfl fun a hF => ?_
                     refine stepV_off (i := 63) rfl hF rfl rfl rfl rfl fun a hF => ?_
                     refine stepV_off (i := 64) rfl hF rfl rfl rfl rfl fun a hF => ?_
                     refine stepV_off (i := 65) rfl hF rfl rfl rfl rfl fun a hF => ?_
                     refine stepV_offu (i := 66) rfl hF rfl rfl rfl fun a hF => ?_
                     refine oneV (i := 67) rfl ?_ trivial
                     refine guard_offu hF rfl rfl rfl fun a hF => nil (then_n ⟨hS.weak ⟨rfl, rfl, rfl, rfl, rfl, rfl, rfl, rfl, rfl, trivial⟩, ?_⟩)
                     refine stepV_offu (i := 68) rfl hF rfl rfl rfl fun a hF => ?_
                     refine stepV_off (i := 69) rfl hF rfl rfl rfl rfl fun a hF => ?_
                     refine stepV (i := 70) rfl hF (fun w hS => Y.pick_t hF rfl rfl rfl) rfl fun a hF => ?_
                     exact toTailV ⟨hF.weak ⟨rfl, rfl, rfl, rfl, rfl, rfl, rfl, rfl, rfl, rfl, rfl, rfl, rfl, rfl, rfl, rfl, rfl, trivial⟩, hS.weak ⟨rfl, rfl, rfl, rfl, rfl, rfl, rfl, rfl, rfl, trivial⟩⟩
                   ·as_aux_lemma =>
                     skip
                     replace ht_7 := cond_f ht_7 hbv_10
                     obtain ⟨rv_18, hx_18, ht_7⟩ := bind_some ht_7
                     obtain ⟨rv_19, hx_19, ht_7⟩ := bind_some ht_7
                     obtain rfl := some_inj ht_7
                     rcases bcases (!rv_19) with hbv_11 | hbv_11
                     ·as_aux_lemma =>
                       skip
                       replace ht_9 := cond_t ht_9 hbv_11
                       obtain rfl := some_inj ht_9
                       refine stepV (i := 0) rfl hF (fun w hS => Y.move hF rfl) rfl fun a hF => ?_
                       refine stepV (i := 1) rfl hF (fun w hS => Y.neq hF rfl rfl) rfl fun a hF => ?_
                       refine stepV (i := 2) rfl hF (fun w hS => Y.move hF rfl) rfl fun a hF => ?_
                       refine stepV_on (i := 3) rfl hF rfl rfl hbv_4 (fun w hS => Y.move hF rfl) rfl fun a hF => ?_
                       refine stepV_on (i := 4) rfl hF rfl rfl hbv_4 (fun w hS => Y.neq hF rfl rfl) rfl fun a hF => ?_
                       refine stepV (i := 5) rfl hF (fun w hS => Y.pick_f hF rfl hbv_4 rfl) rfl fun a hF => ?_
                       refine stepV (i := 6) rfl hF (fun w hS => Y.move hF rfl) rfl fun a hF => ?_
                       refine stepV_on (i := 7) rfl hF rfl rfl hbv_5 (fun w hS => Y.move hF rfl) rfl fun a hF => ?_
                       refine stepV_on (i := 8) rfl hF rfl rfl hbv_5 (fun w hS => Y.neq hF rfl rfl) rfl fun a hF => ?_
                       refine stepV (i := 9) rfl hF (fun w hS => Y.pick_f hF rfl hbv_5 rfl) rfl fun a hF => ?_
                       refine stepV (i := 10) rfl hF (fun w hS => Y.move hF rfl) rfl fun a hF => ?_
                       refine stepV_on (i := 11) rfl hF rfl rfl hbv_6 (fun w hS => Y.move hF rfl) rfl fun a hF => ?_
                       refine stepV_on (i := 12) rfl hF rfl rfl hbv_6 (fun w hS => Y.neq hF rfl rfl) rfl fun a hF => ?_
                       refine stepV (i := 13) rfl hF (fun w hS => Y.pick_f hF rfl hbv_6 rfl) rfl fun a hF => ?_
                       refine stepV (i := 14) rfl hF (fun w hS => Y.move hF rfl) rfl fun a hF => ?_
                       refine stepV_on (i := 15) rfl hF rfl rfl hbv_7 (fun w hS => Y.move hF rfl) rfl fun a hF => ?_
                       refine stepV_on (i := 16) rfl hF rfl rfl hbv_7 (fun w hS => Y.neq hF rfl rfl) rfl fun a hF => ?_
                       refine stepV (i := 17) rfl hF (fun w hS => Y.pick_f hF rfl hbv_7 rfl) rfl fun a hF => ?_
                       refine stepV (i := 18) rfl hF (fun w hS => Y.move hF rfl) rfl fun a hF => ?_
                       refine stepV_on (i := 19) rfl hF rfl rfl hbv_8 (fun w hS => Y.loadNL 7 sz_34 hF rfl hS rfl rfl rfl) rfl fun a hF => ?_
                       refine stepV_on (i := 20) rfl hF rfl rfl hbv_8 (fun w hS => Y.fieldAddr fo_34_1 hF rfl) rfl fun a hF => ?_
                       refine stepV_on (i := 21) rfl hF rfl rfl hbv_8 (fun w hS => Y.load1L 6 sz_3 hF rfl hS rfl rfl) rfl fun a hF => ?_
                       refine stepV_on (i := 22) rfl hF rfl rfl hbv_8 (fun w hS => Y.neg hF rfl) rfl fun a hF => ?_
                       refine stepV_on (i := 23) rfl hF rfl rfl hbv_8 (fun w hS => Y.fieldAddr fo_34_0 hF rfl) rfl fun a hF => ?_
                       refine stepV_on (i := 24) rfl hF rfl rfl hbv_8 (fun w hS => Y.load1L 6 sz_3 hF rfl hS rfl rfl) rfl fun a hF => ?_
                       refine stepV_on (i := 25) rfl hF rfl rfl hbv_8 (fun w hS => Y.neg hF rfl) rfl fun a hF => ?_
                       refine oneV (i := 26) rfl ?_ trivial
                       refine guard_on hF rfl rfl hbv_8 ?_
                       refine O.callP (us := [.int .i64 (wr (0 - rv_11.1.High)), .int .i64 (wr (0 - rv_11.1.Low))]) ca_37 hF hS (remontoirref00_To_ok hS.stab (wr (0 - rv_11.1.High)) (wr (0 - rv_11.1.Low)) rv_15 hx_15) rfl rfl fun a w hF hS => ?_
                       refine nil (then_n ⟨hS.weak ⟨rfl, rfl, rfl, rfl, rfl, rfl, rfl, rfl, rfl, trivial⟩, ?_⟩)
                       refine stepV_on (i := 27) rfl hF rfl rfl hbv_8 (fun w hS => Y.nest (fun w => eqT_34.equal (by decide) (l := [rv_12.1.Low, rv_12.1.High]) (m := [rv_15.Low, rv_15.High]) rfl rfl) (fun w => run_eqGuard_agg _ _ _ _ _ _ _ eg_34) hF rfl rfl) rfl fun a hF => ?_
                       refine stepV (i := 28) rfl hF (fun w hS => Y.pick_f hF rfl hbv_8 rfl) rfl fun a hF => ?_
                       refine stepV (i := 29) rfl hF (fun w hS => Y.move hF rfl) rfl fun a hF => ?_
                       refine stepV_on (i := 30) rfl hF rfl rfl hbv_9 (fun w hS => Y.loadNL 6 sz_34 hF rfl hS rfl rfl rfl) rfl fun a hF => ?_
                       refine stepV_on (i := 31) rfl hF rfl rfl hbv_9 (fun w hS => Y.fieldAddr fo_34_0 hF rfl) rfl fun a hF => ?_
                       refine stepV_on (i := 32) rfl hF rfl rfl hbv_9 (fun w hS => Y.load1L 4 sz_3 hF rfl hS rfl rfl) rfl fun a hF => ?_
                       refine stepV_on (i := 33) rfl hF rfl rfl hbv_9 (fun w hS => Y.fieldAddr fo_34_1 hF rfl) rfl fun a hF => ?_
                       refine stepV_on (i := 34) rfl hF rfl rfl hbv_9 (fun w hS => Y.load1L 5 sz_3 hF rfl hS rfl rfl) rfl fun a hF => ?_
                       refine stepV_on (i := 35) rfl hF rfl rfl hbv_9 (fun w hS => Y.sub hF rfl rfl) rfl fun a hF => ?_
                       refine stepV_on (i := 36) rfl hF rfl rfl hbv_9 (fun w hS => Y.fieldAddr fo_34_1 hF rfl) rfl fun a hF => ?_
                       refine stepV_on (i := 37) rfl hF rfl rfl hbv_9 (fun w hS => Y.load1L 4 sz_3 hF rfl hS rfl rfl) rfl fun a hF => ?_
                       refine stepV_on (i := 38) rfl hF rfl rfl hbv_9 (fun w hS => Y.fieldAddr fo_34_0 hF rfl) rfl fun a hF => ?_
                       refine stepV_on (i := 39) rfl hF rfl rfl hbv_9 (fun w hS => Y.load1L 5 sz_3 hF rfl hS rfl rfl) rfl fun a hF => ?_
                       refine stepV_on (i := 40) rfl hF rfl rfl hbv_9 (fun w hS => Y.sub hF rfl rfl) rfl fun a hF => ?_
                       refine oneV (i := 41) rfl ?_ trivial
                       refine guard_on hF rfl rfl hbv_9 ?_
                       refine O.callP (us := [.int .i64 (wr (rv_8.1.Low - rv_9.1.High)), .int .i64 (wr (rv_8.1.High - rv_9.1.Low))]) ca_37 hF hS (remontoirref00_To_ok hS.stab (wr (rv_8.1.Low - rv_9.1.High)) (wr (rv_8.1.High - rv_9.1.Low)) rv_16 hx_16) rfl rfl fun a w hF hS => ?_
                       refine nil (then_n ⟨hS.weak ⟨rfl, rfl, rfl, rfl, rfl, rfl, rfl, rfl, rfl, trivial⟩, ?_⟩)
                       refine oneV (i := 42) rfl ?_ trivial
                       refine guard_on hF rfl rfl hbv_9 ?_
                       refine O.callP (us := [.agg #[.int .i64 rv_11.1.Low, .int .i64 rv_11.1.High], .agg #[.int .i64 rv_16.Low, .int .i64 rv_16.High]]) ca_36 hF hS (remontoirref00_Within_ok hS.stab rv_11.1 rv_16 rv_17 hx_17) rfl rfl fun a w hF hS => ?_
                       refine nil (then_n ⟨hS.weak ⟨rfl, rfl, rfl, rfl, rfl, rfl, rfl, rfl, rfl, trivial⟩, ?_⟩)
                       refine stepV_on (i := 43) rfl hF rfl rfl hbv_9 (fun w hS => Y.not hF rfl) rfl fun a hF => ?_
                       refine stepV (i := 44) rfl hF (fun w hS => Y.pick_f hF rfl hbv_9 rfl) rfl fun a hF => ?_
                       refine stepV (i := 45) rfl hF (fun w hS => Y.move hF rfl) rfl fun a hF => ?_
                       refine stepV_on (i := 46) rfl hF rfl rfl hbv_10 (fun w hS => Y.loadNL 6 sz_34 hF rfl hS rfl rfl rfl) rfl fun a hF => ?_
                       refine stepV_on (i := 47) rfl hF rfl rfl hbv_10 (fun w hS => Y.fieldAddr fo_34_0 hF rfl) rfl fun a hF => ?_
                       refine stepV_on (i := 48) rfl hF rfl rfl hbv_10 (fun w hS => Y.load1L 8 sz_3 hF rfl hS rfl rfl) rfl fun a hF => ?_
                       refine stepV_on (i := 49) rfl hF rfl rfl hbv_10 (fun w hS => Y.fieldAddr fo_34_0 hF rfl) rfl fun a hF => ?_
                       refine stepV_on (i := 50) rfl hF rfl rfl hbv_10 (fun w hS => Y.load1L 9 sz_3 hF rfl hS rfl rfl) rfl fun a hF => ?_
                       refine stepV_on (i := 51) rfl hF rfl rfl hbv_10 (fun w hS => Y.add hF rfl rfl) rfl fun a hF => ?_
                       refine stepV_on (i := 52) rfl hF rfl rfl hbv_10 (fun w hS => Y.fieldAddr fo_34_1 hF rfl) rfl fun a hF => ?_
                       refine stepV_on (i := 53) rfl hF rfl rfl hbv_10 (fun w hS => Y.load1L 8 sz_3 hF rfl hS rfl rfl) rfl fun a hF => ?_
                       refine stepV_on (i := 54) rfl hF rfl rfl hbv_10 (fun w hS => Y.fieldAddr fo_34_1 hF rfl) rfl fun a hF => ?_
                       refine stepV_on (i := 55) rfl hF rfl rfl hbv_10 (fun w hS => Y.load1L 9 sz_3 hF rfl hS rfl rfl) rfl fun a hF => ?_
                       refine stepV_on (i := 56) rfl hF rfl rfl hbv_10 (fun w hS => Y.add hF rfl rfl) rfl fun a hF => ?_
                       refine oneV (i := 57) rfl ?_ trivial
                       refine guard_on hF rfl rfl hbv_10 ?_
                       refine O.callP (us := [.int .i64 (wr (rv_13.1.Low + rv_14.1.Low)), .int .i64 (wr (rv_13.1.High + rv_14.1.High))]) ca_37 hF hS (remontoirref00_To_ok hS.stab (wr (rv_13.1.Low + rv_14.1.Low)) (wr (rv_13.1.High + rv_14.1.High)) rv_18 hx_18) rfl rfl fun a w hF hS => ?_
                       refine nil (then_n ⟨hS.weak ⟨rfl, rfl, rfl, rfl, rfl, rfl, rfl, rfl, rfl, trivial⟩, ?_⟩)
                       refine oneV (i := 58) rfl ?_ trivial
                       refine guard_on hF rfl rfl hbv_10 ?_
                       refine O.callP (us := [.agg #[.int .i64 rv_11.1.Low, .int .i64 rv_11.1.High], .agg #[.int .i64 rv_18.Low, .int .i64 rv_18.High]]) ca_36 hF hS (remontoirref00_Within_ok hS.stab rv_11.1 rv_18 rv_19 hx_19) rfl rfl fun a w hF hS => ?_
                       refine nil (then_n ⟨hS.weak ⟨rfl, rfl, rfl, rfl, rfl, rfl, rfl, rfl, rfl, trivial⟩, ?_⟩)
                       refine stepV_on (i := 59) rfl hF rfl rfl hbv_10 (fun w hS => Y.not hF rfl) rfl fun a hF => ?_
                       refine stepV (i := 60) rfl hF (fun w hS => Y.pick_f hF rfl hbv_10 rfl) rfl fun a hF => ?_
                       refine stepV (i := 61) rfl hF (fun w hS => Y.move hF rfl) rfl fun a hF => ?_
                       refine stepV_off (i := 62) rfl hF rfl rfl hbv_11 rfl fun a hF => ?_
                       refine stepV_off (i := 63) rfl hF rfl rfl hbv_11 rfl fun a hF => ?_
                       refine stepV_off (i := 64) rfl hF rfl rfl hbv_11 rfl fun a hF => ?_
                       refine stepV_off (i := 65) rfl hF rfl rfl hbv_11 rfl fun a hF => ?_
                       refine stepV_offu (i := 66) rfl hF rfl rfl rfl fun a hF => ?_
                       refine oneV (i := 67) rfl ?_ trivial
                       refine guard_offu hF rfl rfl rfl fun a hF => nil (then_n ⟨hS.weak ⟨rfl, rfl, rfl, rfl, rfl, rfl, rfl, rfl, rfl, trivial⟩, ?_⟩)
                       refine stepV_offu (i := 68) rfl hF rfl rfl rfl fun a hF => ?_
                       refine stepV_off (i := 69) rfl hF rfl rfl hbv_11 rfl fun a hF => ?_
                       refine stepV (i := 70) rfl hF (fun w hS => Y.pick_t hF rfl hbv_11 rfl) rfl fun a hF => ?_
                       exact toTailV ⟨hF.weak ⟨rfl, rfl, rfl, rfl, rfl, rfl, rfl, rfl, rfl, rfl, rfl, rfl, rfl, rfl, rfl, rfl, rfl, trivial⟩, hS.weak ⟨rfl, rfl, rfl, rfl, rfl, rfl, rfl, rfl, rfl, trivial⟩⟩
                     ·as_aux_lemma =>
                       skip
                       replace ht_9 := cond_f ht_9 hbv_11
                       obtain ⟨t_8, ht_8, ht_9⟩ := bind_some ht_9
                       obtain rfl := some_inj ht_9
                       rcases bcases (rv_2 == rv_3) with hbv_12 | hbv_12
                       ·as_aux_lemma =>
                         skip
                         replace ht_8 := cond_t ht_8 hbv_12
                         obtain ⟨rv_20, hx_20, ht_8⟩ := bind_some ht_8
                         obtain rfl := some_inj ht_8
                         refine stepV (i := 0) rfl hF (fun w hS => Y.move hF rfl) rfl fun a hF => ?_
                         refine stepV (i := 1) rfl hF (fun w hS => Y.neq hF rfl rfl) rfl fun a hF => ?_
                         refine stepV (i := 2) rfl hF (fun w hS => Y.move hF rfl) rfl fun a hF => ?_
                         refine stepV_on (i := 3) rfl hF rfl rfl hbv_4 (fun w hS => Y.move hF rfl) rfl fun a hF => ?_
                         refine stepV_on (i := 4) rfl hF rfl rfl hbv_4 (fun w hS => Y.neq hF rfl rfl) rfl fun a hF => ?_
                         refine stepV (i := 5) rfl hF (fun w hS => Y.pick_f hF rfl hbv_4 rfl) rfl fun a hF => ?_
                         refine stepV (i := 6) rfl hF (fun w hS => Y.move hF rfl) rfl fun a hF => ?_
                         refine stepV_on (i := 7) rfl hF rfl rfl hbv_5 (fun w hS => Y.move hF rfl) rfl fun a hF => ?_
                         refine stepV_on (i := 8) rfl hF rfl rfl hbv_5 (fun w hS => Y.neq hF rfl rfl) rfl fun a hF => ?_
                         refine stepV (i := 9) rfl hF (fun w hS => Y.pick_f hF rfl hbv_5 rfl) rfl fun a hF => ?_
                         refine stepV (i := 10) rfl hF (fun w hS => Y.move hF rfl) rfl fun a hF => ?_
                         refine stepV_on (i := 11) rfl hF rfl rfl hbv_6 (fun w hS => Y.move hF rfl) rfl fun a hF => ?_
                         refine stepV_on (i := 12) rfl hF rfl rfl hbv_6 (fun w hS => Y.neq hF rfl rfl) rfl fun a hF => ?_
                         refine stepV (i := 13) rfl hF (fun w hS => Y.pick_f hF rfl hbv_6 rfl) rfl fun a hF => ?_
                         refine stepV (i := 14) rfl hF (fun w hS => Y.move hF rfl) rfl fun a hF => ?_
                         refine stepV_on (i := 15) rfl hF rfl rfl hbv_7 (fun w hS => Y.move hF rfl) rfl fun a hF => ?_
                         refine stepV_on (i := 16) rfl hF rfl rfl hbv_7 (fun w hS => Y.neq hF rfl rfl) rfl fun a hF => ?_
                         refine stepV (i := 17) rfl hF (fun w hS => Y.pick_f hF rfl hbv_7 rfl) rfl fun a hF => ?_
                         refine stepV (i := 18) rfl hF (fun w hS => Y.move hF rfl) rfl fun a hF => ?_
                         refine stepV_on (i := 19) rfl hF rfl rfl hbv_8 (fun w hS => Y.loadNL 7 sz_34 hF rfl hS rfl rfl rfl) rfl fun a hF => ?_
                         refine stepV_on (i := 20) rfl hF rfl rfl hbv_8 (fun w hS => Y.fieldAddr fo_34_1 hF rfl) rfl fun a hF => ?_
                         refine stepV_on (i := 21) rfl hF rfl rfl hbv_8 (fun w hS => Y.load1L 6 sz_3 hF rfl hS rfl rfl) rfl fun a hF => ?_
                         refine stepV_on (i := 22) rfl hF rfl rfl hbv_8 (fun w hS => Y.neg hF rfl) rfl fun a hF => ?_
                         refine stepV_on (i := 23) rfl hF rfl rfl hbv_8 (fun w hS => Y.fieldAddr fo_34_0 hF rfl) rfl fun a hF => ?_
                         refine stepV_on (i := 24) rfl hF rfl rfl hbv_8 (fun w hS => Y.load1L 6 sz_3 hF rfl hS rfl rfl) rfl fun a hF => ?_
                         refine stepV_on (i := 25) rfl hF rfl rfl hbv_8 (fun w hS => Y.neg hF rfl) rfl fun a hF => ?_
                         refine oneV (i := 26) rfl ?_ trivial
                         refine guard_on hF rfl rfl hbv_8 ?_
                         refine O.callP (us := [.int .i64 (wr (0 - rv_11.1.High)), .int .i64 (wr (0 - rv_11.1.Low))]) ca_37 hF hS (remontoirref00_To_ok hS.stab (wr (0 - rv_11.1.High)) (wr (0 - rv_11.1.Low)) rv_15 hx_15) rfl rfl fun a w hF hS => ?_
                         refine nil (then_n ⟨hS.weak ⟨rfl, rfl, rfl, rfl, rfl, rfl, rfl, rfl, rfl, trivial⟩, ?_⟩)
                         refine stepV_on (i := 27) rfl hF rfl rfl hbv_8 (fun w hS => Y.nest (fun w => eqT_34.equal (by decide) (l := [rv_12.1.Low, rv_12.1.High]) (m := [rv_15.Low, rv_15.High]) rfl rfl) (fun w => run_eqGuard_agg _ _ _ _ _ _ _ eg_34) hF rfl rfl) rfl fun a hF => ?_
                         refine stepV (i := 28) rfl hF (fun w hS => Y.pick_f hF rfl hbv_8 rfl) rfl fun a hF => ?_
                         refine stepV (i := 29) rfl hF (fun w hS => Y.move hF rfl) rfl fun a hF => ?_
                         refine stepV_on (i := 30) rfl hF rfl rfl hbv_9 (fun w hS => Y.loadNL 6 sz_34 hF rfl hS rfl rfl rfl) rfl fun a hF => ?_
                         refine stepV_on (i := 31) rfl hF rfl rfl hbv_9 (fun w hS => Y.fieldAddr fo_34_0 hF rfl) rfl fun a hF => ?_
                         refine stepV_on (i := 32) rfl hF rfl rfl hbv_9 (fun w hS => Y.load1L 4 sz_3 hF rfl hS rfl rfl) rfl fun a hF => ?_
                         refine stepV_on (i := 33) rfl hF rfl rfl hbv_9 (fun w hS => Y.fieldAddr fo_34_1 hF rfl) rfl fun a hF => ?_
                         refine stepV_on (i := 34) rfl hF rfl rfl hbv_9 (fun w hS => Y.load1L 5 sz_3 hF rfl hS rfl rfl) rfl fun a hF => ?_
                         refine stepV_on (i := 35) rfl hF rfl rfl hbv_9 (fun w hS => Y.sub hF rfl rfl) rfl fun a hF => ?_
                         refine stepV_on (i := 36) rfl hF rfl rfl hbv_9 (fun w hS => Y.fieldAddr fo_34_1 hF rfl) rfl fun a hF => ?_
                         refine stepV_on (i := 37) rfl hF rfl rfl hbv_9 (fun w hS => Y.load1L 4 sz_3 hF rfl hS rfl rfl) rfl fun a hF => ?_
                         refine stepV_on (i := 38) rfl hF rfl rfl hbv_9 (fun w hS => Y.fieldAddr fo_34_0 hF rfl) rfl fun a hF => ?_
                         refine stepV_on (i := 39) rfl hF rfl rfl hbv_9 (fun w hS => Y.load1L 5 sz_3 hF rfl hS rfl rfl) rfl fun a hF => ?_
                         refine stepV_on (i := 40) rfl hF rfl rfl hbv_9 (fun w hS => Y.sub hF rfl rfl) rfl fun a hF => ?_
                         refine oneV (i := 41) rfl ?_ trivial
                         refine guard_on hF rfl rfl hbv_9 ?_
                         refine O.callP (us := [.int .i64 (wr (rv_8.1.Low - rv_9.1.High)), .int .i64 (wr (rv_8.1.High - rv_9.1.Low))]) ca_37 hF hS (remontoirref00_To_ok hS.stab (wr (rv_8.1.Low - rv_9.1.High)) (wr (rv_8.1.High - rv_9.1.Low)) rv_16 hx_16) rfl rfl fun a w hF hS => ?_
                         refine nil (then_n ⟨hS.weak ⟨rfl, rfl, rfl, rfl, rfl, rfl, rfl, rfl, rfl, trivial⟩, ?_⟩)
                         refine oneV (i := 42) rfl ?_ trivial
                         refine guard_on hF rfl rfl hbv_9 ?_
                         refine O.callP (us := [.agg #[.int .i64 rv_11.1.Low, .int .i64 rv_11.1.High], .agg #[.int .i64 rv_16.Low, .int .i64 rv_16.High]]) ca_36 hF hS (remontoirref00_Within_ok hS.stab rv_11.1 rv_16 rv_17 hx_17) rfl rfl fun a w hF hS => ?_
                         refine nil (then_n ⟨hS.weak ⟨rfl, rfl, rfl, rfl, rfl, rfl, rfl, rfl, rfl, trivial⟩, ?_⟩)
                         refine stepV_on (i := 43) rfl hF rfl rfl hbv_9 (fun w hS => Y.not hF rfl) rfl fun a hF => ?_
                         refine stepV (i := 44) rfl hF (fun w hS => Y.pick_f hF rfl hbv_9 rfl) rfl fun a hF => ?_
                         refine stepV (i := 45) rfl hF (fun w hS => Y.move hF rfl) rfl fun a hF => ?_
                         refine stepV_on (i := 46) rfl hF rfl rfl hbv_10 (fun w hS => Y.loadNL 6 sz_34 hF rfl hS rfl rfl rfl) rfl fun a hF => ?_
                         refine stepV_on (i := 47) rfl hF rfl rfl hbv_10 (fun w hS => Y.fieldAddr fo_34_0 hF rfl) rfl fun a hF => ?_
                         refine stepV_on (i := 48) rfl hF rfl rfl hbv_10 (fun w hS => Y.load1L 8 sz_3 hF rfl hS rfl rfl) rfl fun a hF => ?_
                         refine stepV_on (i := 49) rfl hF rfl rfl hbv_10 (fun w hS => Y.fieldAddr fo_34_0 hF rfl) rfl fun a hF => ?_
                         refine stepV_on (i := 50) rfl hF rfl rfl hbv_10 (fun w hS => Y.load1L 9 sz_3 hF rfl hS rfl rfl) rfl fun a hF => ?_
                         refine stepV_on (i := 51) rfl hF rfl rfl hbv_10 (fun w hS => Y.add hF rfl rfl) rfl fun a hF => ?_
                         refine stepV_on (i := 52) rfl hF rfl rfl hbv_10 (fun w hS => Y.fieldAddr fo_34_1 hF rfl) rfl fun a hF => ?_
                         refine stepV_on (i := 53) rfl hF rfl rfl hbv_10 (fun w hS => Y.load1L 8 sz_3 hF rfl hS rfl rfl) rfl fun a hF => ?_
                         refine stepV_on (i := 54) rfl hF rfl rfl hbv_10 (fun w hS => Y.fieldAddr fo_34_1 hF rfl) rfl fun a hF => ?_
                         refine stepV_on (i := 55) rfl hF rfl rfl hbv_10 (fun w hS => Y.load1L 9 sz_3 hF rfl hS rfl rfl) rfl fun a hF => ?_
                         refine stepV_on (i := 56) rfl hF rfl rfl hbv_10 (fun w hS => Y.add hF rfl rfl) rfl fun a hF => ?_
                         refine oneV (i := 57) rfl ?_ trivial
                         refine guard_on hF rfl rfl hbv_10 ?_
                         refine O.callP (us := [.int .i64 (wr (rv_13.1.Low + rv_14.1.Low)), .int .i64 (wr (rv_13.1.High + rv_14.1.High))]) ca_37 hF hS (remontoirref00_To_ok hS.stab (wr (rv_13.1.Low + rv_14.1.Low)) (wr (rv_13.1.High + rv_14.1.High)) rv_18 hx_18) rfl rfl fun a w hF hS => ?_
                         refine nil (then_n ⟨hS.weak ⟨rfl, rfl, rfl, rfl, rfl, rfl, rfl, rfl, rfl, trivial⟩, ?_⟩)
                         refine oneV (i := 58) rfl ?_ trivial
                         refine guard_on hF rfl rfl hbv_10 ?_
                         refine O.callP (us := [.agg #[.int .i64 rv_11.1.Low, .int .i64 rv_11.1.High], .agg #[.int .i64 rv_18.Low, .int .i64 rv_18.High]]) ca_36 hF hS (remontoirref00_Within_ok hS.stab rv_11.1 rv_18 rv_19 hx_19) rfl rfl fun a w hF hS => ?_
                         refine nil (then_n ⟨hS.weak ⟨rfl, rfl, rfl, rfl, rfl, rfl, rfl, rfl, rfl, trivial⟩, ?_⟩)
                         refine stepV_on (i := 59) rfl hF rfl rfl hbv_10 (fun w hS => Y.not hF rfl) rfl fun a hF => ?_
                         refine stepV (i := 60) rfl hF (fun w hS => Y.pick_f hF rfl hbv_10 rfl) rfl fun a hF => ?_
                         refine stepV (i := 61) rfl hF (fun w hS => Y.move hF rfl) rfl fun a hF => ?_
                         refine stepV_on (i := 62) rfl hF rfl rfl hbv_11 (fun w hS => Y.move hF rfl) rfl fun a hF => ?_
                         refine stepV_on (i := 63) rfl hF rfl rfl hbv_11 (fun w hS => Y.move hF rfl) rfl fun a hF => ?_
                         refine stepV_on (i := 64) rfl hF rfl rfl hbv_11 (fun w hS => Y.eql hF rfl rfl) rfl fun a hF => ?_
                         refine stepV_on (i := 65) rfl hF rfl rfl hbv_11 (fun w hS => Y.move hF rfl) rfl fun a hF => ?_
                         refine stepV_on (i := 66) rfl hF rfl rfl hbv_12 (fun w hS => Y.loadNL 6 sz_34 hF rfl hS rfl rfl rfl) rfl fun a hF => ?_
                         refine oneV (i := 67) rfl ?_ trivial
                         refine guard_on hF rfl rfl hbv_12 ?_
                         refine O.callP (us := [.int .i64 0, .int .i64 0]) ca_37 hF hS (remontoirref00_To_ok hS.stab 0 0 rv_20 hx_20) rfl rfl fun a w hF hS => ?_
                         refine nil (then_n ⟨hS.weak ⟨rfl, rfl, rfl, rfl, rfl, rfl, rfl, rfl, rfl, trivial⟩, ?_⟩)
                         refine stepV_on (i := 68) rfl hF rfl rfl hbv_12 (fun w hS => Y.nest (fun w => eqT_34.equal (by decide) (l := [rv_11.1.Low, rv_11.1.High]) (m := [rv_20.Low, rv_20.High]) rfl rfl) (fun w => run_eqGuard_agg _ _ _ _ _ _ _ eg_34) hF rfl rfl) rfl fun a hF => ?_
                         refine stepV_on (i := 69) rfl hF rfl rfl hbv_11 (fun w hS => Y.pick_t hF rfl hbv_12 rfl) rfl fun a hF => ?_
                         refine stepV (i := 70) rfl hF (fun w hS => Y.pick_f hF rfl hbv_11 rfl) rfl fun a hF => ?_
                         exact toTailV ⟨hF.weak ⟨rfl, rfl, rfl, rfl, rfl, rfl, rfl, rfl, rfl, rfl, rfl, rfl, rfl, rfl, rfl, rfl, rfl, trivial⟩, hS.weak ⟨rfl, rfl, rfl, rfl, rfl, rfl, rfl, rfl, rfl, trivial⟩⟩
                       ·as_aux_lemma =>
                         skip
                         replace ht_8 := cond_f ht_8 hbv_12
                         obtain rfl := some_inj ht_8
                         refine stepV (i := 0) rfl hF (fun w hS => Y.move hF rfl) rfl fun a hF => ?_
                         refine stepV (i := 1) rfl hF (fun w hS => Y.neq hF rfl rfl) rfl fun a hF => ?_
                         refine stepV (i := 2) rfl hF (fun w hS => Y.move hF rfl) rfl fun a hF => ?_
                         refine stepV_on (i := 3) rfl hF rfl rfl hbv_4 (fun w hS => Y.move hF rfl) rfl fun a hF => ?_
                         refine stepV_on (i := 4) rfl hF rfl rfl hbv_4 (fun w hS => Y.neq hF rfl rfl) rfl fun a hF => ?_
                         refine stepV (i := 5) rfl hF (fun w hS => Y.pick_f hF rfl hbv_4 rfl) rfl fun a hF => ?_
                         refine stepV (i := 6) rfl hF (fun w hS => Y.move hF rfl) rfl fun a hF => ?_
                         refine stepV_on (i := 7) rfl hF rfl rfl hbv_5 (fun w hS => Y.move hF rfl) rfl fun a hF => ?_
                         refine stepV_on (i := 8) rfl hF rfl rfl hbv_5 (fun w hS => Y.neq hF rfl rfl) rfl fun a hF => ?_
                         refine stepV (i := 9) rfl hF (fun w hS => Y.pick_f hF rfl hbv_5 rfl) rfl fun a hF => ?_
                         refine stepV (i := 10) rfl hF (fun w hS => Y.move hF rfl) rfl fun a hF => ?_
                         refine stepV_on (i := 11) rfl hF rfl rfl hbv_6 (fun w hS => Y.move hF rfl) rfl fun a hF => ?_
                         refine stepV_on (i := 12) rfl hF rfl rfl hbv_6 (fun w hS => Y.neq hF rfl rfl) rfl fun a hF => ?_
                         refine stepV (i := 13) rfl hF (fun w hS => Y.pick_f hF rfl hbv_6 rfl) rfl fun a hF => ?_
                         refine stepV (i := 14) rfl hF (fun w hS => Y.move hF rfl) rfl fun a hF => ?_
                         refine stepV_on (i := 15) rfl hF rfl rfl hbv_7 (fun w hS => Y.move hF rfl) rfl fun a hF => ?_
                         refine stepV_on (i := 16) rfl hF rfl rfl hbv_7 (fun w hS => Y.neq hF rfl rfl) rfl fun a hF => ?_
                         refine stepV (i := 17) rfl hF (fun w hS => Y.pick_f hF rfl hbv_7 rfl) rfl fun a hF => ?_
                         refine stepV (i := 18) rfl hF (fun w hS => Y.move hF rfl) rfl fun a hF => ?_
                         refine stepV_on (i := 19) rfl hF rfl rfl hbv_8 (fun w hS => Y.loadNL 7 sz_34 hF rfl hS rfl rfl rfl) rfl fun a hF => ?_
                         refine stepV_on (i := 20) rfl hF rfl rfl hbv_8 (fun w hS => Y.fieldAddr fo_34_1 hF rfl) rfl fun a hF => ?_
                         refine stepV_on (i := 21) rfl hF rfl rfl hbv_8 (fun w hS => Y.load1L 6 sz_3 hF rfl hS rfl rfl) rfl fun a hF => ?_
                         refine stepV_on (i := 22) rfl hF rfl rfl hbv_8 (fun w hS => Y.neg hF rfl) rfl fun a hF => ?_
                         refine stepV_on (i := 23) rfl hF rfl rfl hbv_8 (fun w hS => Y.fieldAddr fo_34_0 hF rfl) rfl fun a hF => ?_
                         refine stepV_on (i := 24) rfl hF rfl rfl hbv_8 (fun w hS => Y.load1L 6 sz_3 hF rfl hS rfl rfl) rfl fun a hF => ?_
                         refine stepV_on (i := 25) rfl hF rfl rfl hbv_8 (fun w hS => Y.neg hF rfl) rfl fun a hF => ?_
                         refine oneV (i := 26) rfl ?_ trivial
                         refine guard_on hF rfl rfl hbv_8 ?_
                         refine O.callP (us := [.int .i64 (wr (0 - rv_11.1.High)), .int .i64 (wr (0 - rv_11.1.Low))]) ca_37 hF hS (remontoirref00_To_ok hS.stab (wr (0 - rv_11.1.High)) (wr (0 - rv_11.1.Low)) rv_15 hx_15) rfl rfl fun a w hF hS => ?_
                         refine nil (then_n ⟨hS.weak ⟨rfl, rfl, rfl, rfl, rfl, rfl, rfl, rfl, rfl, trivial⟩, ?_⟩)
                         refine stepV_on (i := 27) rfl hF rfl rfl hbv_8 (fun w hS => Y.nest (fun w => eqT_34.equal (by decide) (l := [rv_12.1.Low, rv_12.1.High]) (m := [rv_15.Low, rv_15.High]) rfl rfl) (fun w => run_eqGuard_agg _ _ _ _ _ _ _ eg_34) hF rfl rfl) rfl fun a hF => ?_
                         refine stepV (i := 28) rfl hF (fun w hS => Y.pick_f hF rfl hbv_8 rfl) rfl fun a hF => ?_
                         refine stepV (i := 29) rfl hF (fun w hS => Y.move hF rfl) rfl fun a hF => ?_
                         refine stepV_on (i := 30) rfl hF rfl rfl hbv_9 (fun w hS => Y.loadNL 6 sz_34 hF rfl hS rfl rfl rfl) rfl fun a hF => ?_
                         refine stepV_on (i := 31) rfl hF rfl rfl hbv_9 (fun w hS => Y.fieldAddr fo_34_0 hF rfl) rfl fun a hF => ?_
                         refine stepV_on (i := 32) rfl hF rfl rfl hbv_9 (fun w hS => Y.load1L 4 sz_3 hF rfl hS rfl rfl) rfl fun a hF => ?_
                         refine stepV_on (i := 33) rfl hF rfl rfl hbv_9 (fun w hS => Y.fieldAddr fo_34_1 hF rfl) rfl fun a hF => ?_
                         refine stepV_on (i := 34) rfl hF rfl rfl hbv_9 (fun w hS => Y.load1L 5 sz_3 hF rfl hS rfl rfl) rfl fun a hF => ?_
                         refine stepV_on (i := 35) rfl hF rfl rfl hbv_9 (fun w hS => Y.sub hF rfl rfl) rfl fun a hF => ?_
                         refine stepV_on (i := 36) rfl hF rfl rfl hbv_9 (fun w hS => Y.fieldAddr fo_34_1 hF rfl) rfl fun a hF => ?_
                         refine stepV_on (i := 37) rfl hF rfl rfl hbv_9 (fun w hS => Y.load1L 4 sz_3 hF rfl hS rfl rfl) rfl fun a hF => ?_
                         refine stepV_on (i := 38) rfl hF rfl rfl hbv_9 (fun w hS => Y.fieldAddr fo_34_0 hF rfl) rfl fun a hF => ?_
                         refine stepV_on (i := 39) rfl hF rfl rfl hbv_9 (fun w hS => Y.load1L 5 sz_3 hF rfl hS rfl rfl) rfl fun a hF => ?_
                         refine stepV_on (i := 40) rfl hF rfl rfl hbv_9 (fun w hS => Y.sub hF rfl rfl) rfl fun a hF => ?_
                         refine oneV (i := 41) rfl ?_ trivial
                         refine guard_on hF rfl rfl hbv_9 ?_
                         refine O.callP (us := [.int .i64 (wr (rv_8.1.Low - rv_9.1.High)), .int .i64 (wr (rv_8.1.High - rv_9.1.Low))]) ca_37 hF hS (remontoirref00_To_ok hS.stab (wr (rv_8.1.Low - rv_9.1.High)) (wr (rv_8.1.High - rv_9.1.Low)) rv_16 hx_16) rfl rfl fun a w hF hS => ?_
                         refine nil (then_n ⟨hS.weak ⟨rfl, rfl, rfl, rfl, rfl, rfl, rfl, rfl, rfl, trivial⟩, ?_⟩)
                         refine oneV (i := 42) rfl ?_ trivial
                         refine guard_on hF rfl rfl hbv_9 ?_
                         refine O.callP (us := [.agg #[.int .i64 rv_11.1.Low, .int .i64 rv_11.1.High], .agg #[.int .i64 rv_16.Low, .int .i64 rv_16.High]]) ca_36 hF hS (remontoirref00_Within_ok hS.stab rv_11.1 rv_16 rv_17 hx_17) rfl rfl fun a w hF hS => ?_
                         refine nil (then_n ⟨hS.weak ⟨rfl, rfl, rfl, rfl, rfl, rfl, rfl, rfl, rfl, trivial⟩, ?_⟩)
                         refine stepV_on (i := 43) rfl hF rfl rfl hbv_9 (fun w hS => Y.not hF rfl) rfl fun a hF => ?_
                         refine stepV (i := 44) rfl hF (fun w hS => Y.pick_f hF rfl hbv_9 rfl) rfl fun a hF => ?_
                         refine stepV (i := 45) rfl hF (fun w hS => Y.move hF rfl) rfl fun a hF => ?_
                         refine stepV_on (i := 46) rfl hF rfl rfl hbv_10 (fun w hS => Y.loadNL 6 sz_34 hF rfl hS rfl rfl rfl) rfl fun a hF => ?_
                         refine stepV_on (i := 47) rfl hF rfl rfl hbv_10 (fun w hS => Y.fieldAddr fo_34_0 hF rfl) rfl fun a hF => ?_
                         refine stepV_on (i := 48) rfl hF rfl rfl hbv_10 (fun w hS => Y.load1L 8 sz_3 hF rfl hS rfl rfl) rfl fun a hF => ?_
                         refine stepV_on (i := 49) rfl hF rfl rfl hbv_10 (fun w hS => Y.fieldAddr fo_34_0 hF rfl) rfl fun a hF => ?_
                         refine stepV_on (i := 50) rfl hF rfl rfl hbv_10 (fun w hS => Y.load1L 9 sz_3 hF rfl hS rfl rfl) rfl fun a hF => ?_
                         refine stepV_on (i := 51) rfl hF rfl rfl hbv_10 (fun w hS => Y.add hF rfl rfl) rfl fun a hF => ?_
                         refine stepV_on (i := 52) rfl hF rfl rfl hbv_10 (fun w hS => Y.fieldAddr fo_34_1 hF rfl) rfl fun a hF => ?_
                         refine stepV_on (i := 53) rfl hF rfl rfl hbv_10 (fun w hS => Y.load1L 8 sz_3 hF rfl hS rfl rfl) rfl fun a hF => ?_
                         refine stepV_on (i := 54) rfl hF rfl rfl hbv_10 (fun w hS => Y.fieldAddr fo_34_1 hF rfl) rfl fun a hF => ?_
                         refine stepV_on (i := 55) rfl hF rfl rfl hbv_10 (fun w hS => Y.load1L 9 sz_3 hF rfl hS rfl rfl) rfl fun a hF => ?_
                         refine stepV_on (i := 56) rfl hF rfl rfl hbv_10 (fun w hS => Y.add hF rfl rfl) rfl fun a hF => ?_
                         refine oneV (i := 57) rfl ?_ trivial
                         refine guard_on hF rfl rfl hbv_10 ?_
                         refine O.callP (us := [.int .i64 (wr (rv_13.1.Low + rv_14.1.Low)), .int .i64 (wr (rv_13.1.High + rv_14.1.High))]) ca_37 hF hS (remontoirref00_To_ok hS.stab (wr (rv_13.1.Low + rv_14.1.Low)) (wr (rv_13.1.High + rv_14.1.High)) rv_18 hx_18) rfl rfl fun a w hF hS => ?_
                         refine nil (then_n ⟨hS.weak ⟨rfl, rfl, rfl, rfl, rfl, rfl, rfl, rfl, rfl, trivial⟩, ?_⟩)
                         refine oneV (i := 58) rfl ?_ trivial
                         refine guard_on hF rfl rfl hbv_10 ?_
                         refine O.callP (us := [.agg #[.int .i64 rv_11.1.Low, .int .i64 rv_11.1.High], .agg #[.int .i64 rv_18.Low, .int .i64 rv_18.High]]) ca_36 hF hS (remontoirref00_Within_ok hS.stab rv_11.1 rv_18 rv_19 hx_19) rfl rfl fun a w hF hS => ?_
                         refine nil (then_n ⟨hS.weak ⟨rfl, rfl, rfl, rfl, rfl, rfl, rfl, rfl, rfl, trivial⟩, ?_⟩)
                         refine stepV_on (i := 59) rfl hF rfl rfl hbv_10 (fun w hS => Y.not hF rfl) rfl fun a hF => ?_
                         refine stepV (i := 60) rfl hF (fun w hS => Y.pick_f hF rfl hbv_10 rfl) rfl fun a hF => ?_
                         refine stepV (i := 61) rfl hF (fun w hS => Y.move hF rfl) rfl fun a hF => ?_
                         refine stepV_on (i := 62) rfl hF rfl rfl hbv_11 (fun w hS => Y.move hF rfl) rfl fun a hF => ?_
                         refine stepV_on (i := 63) rfl hF rfl rfl hbv_11 (fun w hS => Y.move hF rfl) rfl fun a hF => ?_
                         refine stepV_on (i := 64) rfl hF rfl rfl hbv_11 (fun w hS => Y.eql hF rfl rfl) rfl fun a hF => ?_
                         refine stepV_on (i := 65) rfl hF rfl rfl hbv_11 (fun w hS => Y.move hF rfl) rfl fun a hF => ?_
                         refine stepV_off (i := 66) rfl hF rfl rfl hbv_12 rfl fun a hF => ?_
                         refine oneV (i := 67) rfl ?_ trivial
                         refine guard_off hF rfl rfl hbv_12 rfl fun a hF => nil (then_n ⟨hS.weak ⟨rfl, rfl, rfl, rfl, rfl, rfl, rfl, rfl, rfl, trivial⟩, ?_⟩)
                         refine stepV_off (i := 68) rfl hF rfl rfl hbv_12 rfl fun a hF => ?_
                         refine stepV_on (i := 69) rfl hF rfl rfl hbv_11 (fun w hS => Y.pick_f hF rfl hbv_12 rfl) rfl fun a hF => ?_
                         refine stepV (i := 70) rfl hF (fun w hS => Y.pick_f hF rfl hbv_11 rfl) rfl fun a hF => ?_
                         exact toTailV ⟨hF.weak ⟨rfl, rfl, rfl, rfl, rfl, rfl, rfl, rfl, rfl, rfl, rfl, rfl, rfl, rfl, rfl, rfl, rfl, trivial⟩, hS.weak ⟨rfl, rfl, rfl, rfl, rfl, rfl, rfl, rfl, rfl, trivial⟩⟩
     rintro a w ⟨hF, hS⟩
     refine nil (then_n ?_)
     refine cond_b hF rfl (fun hbv_13 => ?_) (fun hbv_13 => ?_)
     ·replace h := cond_t h hbv_13
      refine seq ?_
      refine region ?_
      refine step hF (Y.assign hF rfl) rfl fun a hF => ?_
      refine nil (then_n ?_)
      refine ret_ (then_r ?_)
      obtain rfl := some_inj h
      exact leaveP Tryd.results11 hF hS (.cons (.tmp rfl) .nil) .nil rfl
     ·as_aux_lemma =>
       replace h := cond_f h hbv_13
       refine skip_ (then_n ?_)
       refine seq ?_
       refine region ?_
       refine step hF (Y.loadNL 1 sz_26 hF rfl hS rfl rfl rfl) rfl fun a hF => ?_
       refine step hF (Y.move hF rfl) rfl fun a hF => ?_
       refine step hF (Y.move hF rfl) rfl fun a hF => ?_
       refine step hF (Y.move hF rfl) rfl fun a hF => ?_
       obtain ⟨rv_21, hx_21, h⟩ := bind_some h
       refine O.callP (us := [.agg #[.int .i64 c.Hours, .slice p c.Rates.length c_1, .slice p_1 c.Opens.length c_2, .slice p_2 c.Pairs.length c_3], .int .i64 rv_2, .int .i64 rv_5, .int .i64 rv_6]) ca_24 hF hS (beat_Drift_ok hS.stab c rv_2 rv_5 rv_6 hs hs_1 hs_2 hG rv_21 hx_21) rfl rfl fun a w hF hS => ?_
       refine step hF (Y.move hF rfl) rfl fun a hF => ?_
       refine step hF (Y.extract hF rfl rfl) rfl fun a hF => ?_
       refine step hF (Y.extract hF rfl rfl) rfl fun a hF => ?_
       refine O.store (us := [.int .i64 rv_21.1.Low, .int .i64 rv_21.1.High]) 6 sz_34 hF rfl rfl rfl rfl hS rfl rfl fun a w hF hS => ?_
       refine step hF (Y.assign hF rfl) rfl fun a hF => ?_
       refine nil (then_n ?_)
       refine seq ?_
       refine region ?_
       refine step hF (Y.loadNL 1 sz_26 hF rfl hS rfl rfl rfl) rfl fun a hF => ?_
       refine step hF (Y.move hF rfl) rfl fun a hF => ?_
       refine step hF (Y.move hF rfl) rfl fun a hF => ?_
       refine step hF (Y.move hF rfl) rfl fun a hF => ?_
       obtain ⟨rv_22, hx_22, h⟩ := bind_some h
       refine O.callP (us := [.agg #[.int .i64 c.Hours, .slice p c.Rates.length c_1, .slice p_1 c.Opens.length c_2, .slice p_2 c.Pairs.length c_3], .int .i64 rv_2, .int .i64 rv_6, .int .i64 rv_5]) ca_24 hF hS (beat_Drift_ok hS.stab c rv_2 rv_6 rv_5 hs hs_1 hs_2 hG rv_22 hx_22) rfl rfl fun a w hF hS => ?_
       refine step hF (Y.move hF rfl) rfl fun a hF => ?_
       refine step hF (Y.extract hF rfl rfl) rfl fun a hF => ?_
       refine step hF (Y.extract hF rfl rfl) rfl fun a hF => ?_
       refine O.store (us := [.int .i64 rv_22.1.Low, .int .i64 rv_22.1.High]) 7 sz_34 hF rfl rfl rfl rfl hS rfl rfl fun a w hF hS => ?_
       refine step hF (Y.assign hF rfl) rfl fun a hF => ?_
       refine nil (then_n ?_)
       refine seq ?_
       refine region ?_
       refine step hF (Y.loadNL 1 sz_26 hF rfl hS rfl rfl rfl) rfl fun a hF => ?_
       refine step hF (Y.move hF rfl) rfl fun a hF => ?_
       refine step hF (Y.move hF rfl) rfl fun a hF => ?_
       refine step hF (Y.move hF rfl) rfl fun a hF => ?_
       obtain ⟨rv_23, hx_23, h⟩ := bind_some h
       refine O.callP (us := [.agg #[.int .i64 c.Hours, .slice p c.Rates.length c_1, .slice p_1 c.Opens.length c_2, .slice p_2 c.Pairs.length c_3], .int .i64 rv_2, .int .i64 rv_5, .int .i64 rv_7]) ca_24 hF hS (beat_Drift_ok hS.stab c rv_2 rv_5 rv_7 hs hs_1 hs_2 hG rv_23 hx_23) rfl rfl fun a w hF hS => ?_
       refine step hF (Y.move hF rfl) rfl fun a hF => ?_
       refine step hF (Y.extract hF rfl rfl) rfl fun a hF => ?_
       refine step hF (Y.extract hF rfl rfl) rfl fun a hF => ?_
       refine O.store (us := [.int .i64 rv_23.1.Low, .int .i64 rv_23.1.High]) 8 sz_34 hF rfl rfl rfl rfl hS rfl rfl fun a w hF hS => ?_
       refine step hF (Y.assign hF rfl) rfl fun a hF => ?_
       refine nil (then_n ?_)
       refine seq ?_
       refine region ?_
       refine step hF (Y.loadNL 1 sz_26 hF rfl hS rfl rfl rfl) rfl fun a hF => ?_
       refine step hF (Y.move hF rfl) rfl fun a hF => ?_
       refine step hF (Y.move hF rfl) rfl fun a hF => ?_
       refine step hF (Y.move hF rfl) rfl fun a hF => ?_
       obtain ⟨rv_24, hx_24, h⟩ := bind_some h
       refine O.callP (us := [.agg #[.int .i64 c.Hours, .slice p c.Rates.length c_1, .slice p_1 c.Opens.length c_2, .slice p_2 c.Pairs.length c_3], .int .i64 rv_2, .int .i64 rv_7, .int .i64 rv_6]) ca_24 hF hS (beat_Drift_ok hS.stab c rv_2 rv_7 rv_6 hs hs_1 hs_2 hG rv_24 hx_24) rfl rfl fun a w hF hS => ?_
       refine step hF (Y.move hF rfl) rfl fun a hF => ?_
       refine step hF (Y.extract hF rfl rfl) rfl fun a hF => ?_
       refine step hF (Y.extract hF rfl rfl) rfl fun a hF => ?_
       refine O.store (us := [.int .i64 rv_24.1.Low, .int .i64 rv_24.1.High]) 9 sz_34 hF rfl rfl rfl rfl hS rfl rfl fun a w hF hS => ?_
       refine step hF (Y.assign hF rfl) rfl fun a hF => ?_
       refine nil (then_n ?_)
       refine seq ?_
       refine region ?_
       refine step hF (Y.loadNL 1 sz_26 hF rfl hS rfl rfl rfl) rfl fun a hF => ?_
       refine step hF (Y.move hF rfl) rfl fun a hF => ?_
       refine step hF (Y.move hF rfl) rfl fun a hF => ?_
       obtain ⟨rv_25, hx_25, h⟩ := bind_some h
       refine O.callP (us := [.agg #[.int .i64 c.Hours, .slice p c.Rates.length c_1, .slice p_1 c.Opens.length c_2, .slice p_2 c.Pairs.length c_3], .int .i64 rv_2, .int .i64 rv_6]) ca_19 hF hS (beat_Offset_ok hS.stab c rv_2 rv_6 hs hs_1 hs_2 hG rv_25 hx_25) rfl rfl fun a w hF hS => ?_
       refine step hF (Y.move hF rfl) rfl fun a hF => ?_
       refine step hF (Y.extract hF rfl rfl) rfl fun a hF => ?_
       refine step hF (Y.extract hF rfl rfl) rfl fun a hF => ?_
       refine O.alloc 10 zc_34 hF hS rfl fun b_9 a w hF hS => ?_
       refine O.store (us := [.int .i64 rv_25.1.Low, .int .i64 rv_25.1.High]) 10 sz_34 hF rfl rfl rfl rfl hS rfl rfl fun a w hF hS => ?_
       refine step hF (Y.assign hF rfl) rfl fun a hF => ?_
       refine nil (then_n ?_)
       refine seq ?_
       obtain ⟨t_10, ht_10, h⟩ := bind_some h
       obtain ⟨t_11, ht_11, h⟩ := bind_some h
       obtain ⟨t_12, ht_12, h⟩ := bind_some h
       obtain ⟨t_13, ht_13, h⟩ := bind_some h
       obtain ⟨t_14, ht_14, h⟩ := bind_some h
       obtain ⟨t_15, ht_15, h⟩ := bind_some h
       obtain ⟨t_16, ht_16, h⟩ := bind_some h
       obtain ⟨t_18, ht_18, h⟩ := bind_some h
       refine drawsV 69 (.flt 0 (.flt 1 (.flt 2 (.flt 3 (.flt 4 (.flt 5 (.flt 6 (.flt 7 (.flt 8 (.flt 9 (.flt 10 (.flt 11 (.flt 12 (.flt 13 (.flt 14 (.flt 15 (.flt 16 (.flt 17 (.flt 18 (.flt 19 (.flt 20 (.flt 21 (.flt 22 (.flt 23 (.flt 24 (.flt 25 (.alt 26 (.flt 27 (.flt 28 (.flt 29 (.flt 30 (.flt 31 (.flt 32 (.flt 33 (.flt 34 (.flt 35 (.flt 36 (.flt 37 (.flt 38 (.flt 39 (.flt 40 (.alt 41 (.alt 42 (.flt 43 (.flt 44 (.flt 45 (.flt 46 (.flt 47 (.flt 48 (.flt 49 (.flt 50 (.flt 51 (.flt 52 (.flt 53 (.flt 54 (.flt 55 (.alt 56 (.alt 57 (.flt 58 (.flt 59 (.flt 60 (.flt 61 (.flt 62 (.flt 63 (.flt 64 (.alt 65 (.flt 66 (.flt 67 (.flt 68 .done))) .stop)))))))) .stop) .stop)))))))))))))) .stop) .stop))))))))))))))) .stop))))))))))))))))))))))))))) mixed_ (by kernel_rfl) (fun w => St w0 D0 D0 [(1, .cells b [.int .i64 c.Hours, .slice p c.Rates.length c_1, .slice p_1 c.Opens.length c_2, .slice p_2 c.Pairs.length c_3] 26), (2, .cells b_1 [.int .i64 n.a0, .int .i64 n.a1, .int .i64 n.a2] 39), (3, .cells b_2 [.int .i64 m.a0, .int .i64 m.a1, .int .i64 m.a2] 39), (4, .cells b_3 [.int .i64 rv_8.1.Low, .int .i64 rv_8.1.High] 34), (5, .cells b_4 [.int .i64 rv_9.1.Low, .int .i64 rv_9.1.High] 34), (6, .cells b_5 [.int .i64 rv_21.1.Low, .int .i64 rv_21.1.High] 34), (7, .cells b_6 [.int .i64 rv_22.1.Low, .int .i64 rv_22.1.High] 34), (8, .cells b_7 [.int .i64 rv_23.1.Low, .int .i64 rv_23.1.High] 34), (9, .cells b_8 [.int .i64 rv_24.1.Low, .int .i64 rv_24.1.High] 34), (10, .cells b_9 [.int .i64 rv_25.1.Low, .int .i64 rv_25.1.High] 34)] w) (fun a w => Frm 306 [] [(6, .bool false), (302, .bool t_18)] a ∧ St w0 D0 D0 [(1, .cells b [.int .i64 c.Hours, .slice p c.Rates.length c_1, .slice p_1 c.Opens.length c_2, .slice p_2 c.Pairs.length c_3] 26), (2, .cells b_1 [.int .i64 n.a0, .int .i64 n.a1, .int .i64 n.a2] 39), (3, .cells b_2 [.int .i64 m.a0, .int .i64 m.a1, .int .i64 m.a2] 39), (4, .cells b_3 [.int .i64 rv_8.1.Low, .int .i64 rv_8.1.High] 34), (5, .cells b_4 [.int .i64 rv_9.1.Low, .int .i64 rv_9.1.High] 34), (6, .cells b_5 [.int .i64 rv_21.1.Low, .int .i64 rv_21.1.High] 34), (7, .cells b_6 [.int .i64 rv_22.1.Low, .int .i64 rv_22.1.High] 34), (8, .cells b_7 [.int .i64 rv_23.1.Low, .int .i64 rv_23.1.High] 34), (9, .cells b_8 [.int .i64 rv_24.1.Low, .int .i64 rv_24.1.High] 34), (10, .cells b_9 [.int .i64 rv_25.1.Low, .int .i64 rv_25.1.High] 34)] w) (hS.weak (ms := [(1, .cells b [.int .i64 c.Hours, .slice p c.Rates.length c_1, .slice p_1 c.Opens.length c_2, .slice p_2 c.Pairs.length c_3] 26), (2, .cells b_1 [.int .i64 n.a0, .int .i64 n.a1, .int .i64 n.a2] 39), (3, .cells b_2 [.int .i64 m.a0, .int .i64 m.a1, .int .i64 m.a2] 39), (4, .cells b_3 [.int .i64 rv_8.1.Low, .int .i64 rv_8.1.High] 34), (5, .cells b_4 [.int .i64 rv_9.1.Low, .int .i64 rv_9.1.High] 34), (6, .cells b_5 [.int .i64 rv_21.1.Low, .int .i64 rv_21.1.High] 34), (7, .cells b_6 [.int .i64 rv_22.1.Low, .int .i64 rv_22.1.High] 34), (8, .cells b_7 [.int .i64 rv_23.1.Low, .int .i64 rv_23.1.High] 34), (9, .cells b_8 [.int .i64 rv_24.1.Low, .int .i64 rv_24.1.High] 34), (10, .cells b_9 [.int .i64 rv_25.1.Low, .int .i64 rv_25.1.High] 34)]) ⟨rfl, rfl, rfl, rfl, rfl, rfl, rfl, rfl, rfl, rfl, trivial⟩).drew (fun _ _ _ _ h => h) ?_ ?_
       ·as_aux_lemma =>
         replace hS := hS.drew
         have hle0 := hS.le
         rcases bcases (rv_21.2 == 0) with hbv_14 | hbv_14
         ·as_aux_lemma =>
           skip
           replace ht_10 := cond_t ht_10 hbv_14
           obtain rfl := some_inj ht_10
           rcases bcases (rv_22.2 == 0) with hbv_15 | hbv_15
           ·as_aux_lemma =>
             skip
             replace ht_11 := cond_t ht_11 hbv_15
             obtain rfl := some_inj ht_11
             rcases bcases (rv_23.2 == 0) with hbv_16 | hbv_16
             ·as_aux_lemma =>
               skip
               replace ht_12 := cond_t ht_12 hbv_16
               obtain rfl := some_inj ht_12
               rcases bcases (rv_24.2 == 0) with hbv_17 | hbv_17
               ·as_aux_lemma =>
                 skip
                 replace ht_13 := cond_t ht_13 hbv_17
                 obtain rfl := some_inj ht_13
                 rcases bcases (rv_25.2 == 0) with hbv_18 | hbv_18
                 ·as_aux_lemma =>
                   skip
                   replace ht_14 := cond_t ht_14 hbv_18
                   obtain ⟨rv_26, hx_26, ht_14⟩ := bind_some ht_14
                   obtain rfl := some_inj ht_14
                   rcases bcases ([rv_22.1.Low, rv_22.1.High] == [rv_26.Low, rv_26.High]) with hbv_19 | hbv_19
                   ·as_aux_lemma =>
                     skip
                     replace ht_15 := cond_t ht_15 hbv_19
                     obtain ⟨rv_27, hx_27, ht_15⟩ := bind_some ht_15
                     obtain ⟨rv_28, hx_28, ht_15⟩ := bind_some ht_15
                     obtain rfl := some_inj ht_15
                     rcases bcases rv_28 with hbv_20 | hbv_20
                     ·as_aux_lemma =>
                       skip
                       replace ht_16 := cond_t ht_16 hbv_20
                       obtain ⟨rv_29, hx_29, ht_16⟩ := bind_some ht_16
                       obtain ⟨rv_30, hx_30, ht_16⟩ := bind_some ht_16
                       obtain rfl := some_inj ht_16
                       rcases bcases rv_30 with hbv_21 | hbv_21
                       ·as_aux_lemma =>
                         skip
                         replace ht_18 := cond_t ht_18 hbv_21
                         obtain ⟨t_17, ht_17, ht_18⟩ := bind_some ht_18
                         obtain rfl := some_inj ht_18
                         rcases bcases (rv_5 != rv_6) with hbv_22 | hbv_22
                         ·as_aux_lemma =>
                           skip
                           replace ht_17 := cond_t ht_17 hbv_22
                           obtain rfl := some_inj ht_17
                           refine stepV (i := 0) rfl hF (fun w hS => Y.move hF rfl) rfl fun a hF => ?_
                           refine stepV (i := 1) rfl hF (fun w hS => Y.eql hF rfl rfl) rfl fun a hF => ?_
                           refine stepV (i := 2) rfl hF (fun w hS => Y.move hF rfl) rfl fun a hF => ?_
                           refine stepV_on (i := 3) rfl hF rfl rfl hbv_14 (fun w hS => Y.move hF rfl) rfl fun a hF => ?_
                           refine stepV_on (i := 4) rfl hF rfl rfl hbv_14 (fun w hS => Y.eql hF rfl rfl) rfl fun a hF => ?_
                           refine stepV (i := 5) rfl hF (fun w hS => Y.pick_t hF rfl hbv_14 rfl) rfl fun a hF => ?_
                           refine stepV (i := 6) rfl hF (fun w hS => Y.move hF rfl) rfl fun a hF => ?_
                           refine stepV_on (i := 7) rfl hF rfl rfl hbv_15 (fun w hS => Y.move hF rfl) rfl fun a hF => ?_
                           refine stepV_on (i := 8) rfl hF rfl rfl hbv_15 (fun w hS => Y.eql hF rfl rfl) rfl fun a hF => ?_
                           refine stepV (i := 9) rfl hF (fun w hS => Y.pick_t hF rfl hbv_15 rfl) rfl fun a hF => ?_
                           refine stepV (i := 10) rfl hF (fun w hS => Y.move hF rfl) rfl fun a hF => ?_
                           refine stepV_on (i := 11) rfl hF rfl rfl hbv_16 (fun w hS => Y.move hF rfl) rfl fun a hF => ?_
                           refine stepV_on (i := 12) rfl hF rfl rfl hbv_16 (fun w hS => Y.eql hF rfl rfl) rfl fun a hF => ?_
                           refine stepV (i := 13) rfl hF (fun w hS => Y.pick_t hF rfl hbv_16 rfl) rfl fun a hF => ?_
                           refine stepV (i := 14) rfl hF (fun w hS => Y.move hF rfl) rfl fun a hF => ?_
                           refine stepV_on (i := 15) rfl hF rfl rfl hbv_17 (fun w hS => Y.move hF rfl) rfl fun a hF => ?_
                           refine stepV_on (i := 16) rfl hF rfl rfl hbv_17 (fun w hS => Y.eql hF rfl rfl) rfl fun a hF => ?_
                           refine stepV (i := 17) rfl hF (fun w hS => Y.pick_t hF rfl hbv_17 rfl) rfl fun a hF => ?_
                           refine stepV (i := 18) rfl hF (fun w hS => Y.move hF rfl) rfl fun a hF => ?_
                           refine stepV_on (i := 19) rfl hF rfl rfl hbv_18 (fun w hS => Y.loadNL 7 sz_34 hF rfl hS rfl rfl rfl) rfl fun a hF => ?_
                           refine stepV_on (i := 20) rfl hF rfl rfl hbv_18 (fun w hS => Y.fieldAddr fo_34_1 hF rfl) rfl fun a hF => ?_
                           refine stepV_on (i := 21) rfl hF rfl rfl hbv_18 (fun w hS => Y.load1L 6 sz_3 hF rfl hS rfl rfl) rfl fun a hF => ?_
                           refine stepV_on (i := 22) rfl hF rfl rfl hbv_18 (fun w hS => Y.neg hF rfl) rfl fun a hF => ?_
                           refine stepV_on (i := 23) rfl hF rfl rfl hbv_18 (fun w hS => Y.fieldAddr fo_34_0 hF rfl) rfl fun a hF => ?_
                           refine stepV_on (i := 24) rfl hF rfl rfl hbv_18 (fun w hS => Y.load1L 6 sz_3 hF rfl hS rfl rfl) rfl fun a hF => ?_
                           refine stepV_on (i := 25) rfl hF rfl rfl hbv_18 (fun w hS => Y.neg hF rfl) rfl fun a hF => ?_
                           refine oneV (i := 26) rfl ?_ trivial
                           refine guard_on hF rfl rfl hbv_18 ?_
                           refine O.callP (us := [.int .i64 (wr (0 - rv_21.1.High)), .int .i64 (wr (0 - rv_21.1.Low))]) ca_37 hF hS (remontoirref00_To_ok hS.stab (wr (0 - rv_21.1.High)) (wr (0 - rv_21.1.Low)) rv_26 hx_26) rfl rfl fun a w hF hS => ?_
                           refine nil (then_n ⟨hS.weak ⟨rfl, rfl, rfl, rfl, rfl, rfl, rfl, rfl, rfl, rfl, trivial⟩, ?_⟩)
                           refine stepV_on (i := 27) rfl hF rfl rfl hbv_18 (fun w hS => Y.eqst (fun w => eqT_34.equal (by decide) (l := [rv_22.1.Low, rv_22.1.High]) (m := [rv_26.Low, rv_26.High]) rfl rfl) (fun w => run_eqGuard_agg _ _ _ _ _ _ _ eg_34) hF rfl rfl) rfl fun a hF => ?_
                           refine stepV (i := 28) rfl hF (fun w hS => Y.pick_t hF rfl hbv_18 rfl) rfl fun a hF => ?_
                           refine stepV (i := 29) rfl hF (fun w hS => Y.move hF rfl) rfl fun a hF => ?_
                           refine stepV_on (i := 30) rfl hF rfl rfl hbv_19 (fun w hS => Y.loadNL 6 sz_34 hF rfl hS rfl rfl rfl) rfl fun a hF => ?_
                           refine stepV_on (i := 31) rfl hF rfl rfl hbv_19 (fun w hS => Y.fieldAddr fo_34_0 hF rfl) rfl fun a hF => ?_
                           refine stepV_on (i := 32) rfl hF rfl rfl hbv_19 (fun w hS => Y.load1L 10 sz_3 hF rfl hS rfl rfl) rfl fun a hF => ?_
                           refine stepV_on (i := 33) rfl hF rfl rfl hbv_19 (fun w hS => Y.fieldAddr fo_34_1 hF rfl) rfl fun a hF => ?_
                           refine stepV_on (i := 34) rfl hF rfl rfl hbv_19 (fun w hS => Y.load1L 4 sz_3 hF rfl hS rfl rfl) rfl fun a hF => ?_
                           refine stepV_on (i := 35) rfl hF rfl rfl hbv_19 (fun w hS => Y.sub hF rfl rfl) rfl fun a hF => ?_
                           refine stepV_on (i := 36) rfl hF rfl rfl hbv_19 (fun w hS => Y.fieldAddr fo_34_1 hF rfl) rfl fun a hF => ?_
                           refine stepV_on (i := 37) rfl hF rfl rfl hbv_19 (fun w hS => Y.load1L 10 sz_3 hF rfl hS rfl rfl) rfl fun a hF => ?_
                           refine stepV_on (i := 38) rfl hF rfl rfl hbv_19 (fun w hS => Y.fieldAddr fo_34_0 hF rfl) rfl fun a hF => ?_
                           refine stepV_on (i := 39) rfl hF rfl rfl hbv_19 (fun w hS => Y.load1L 4 sz_3 hF rfl hS rfl rfl) rfl fun a hF => ?_
                           refine stepV_on (i := 40) rfl hF rfl rfl hbv_19 (fun w hS => Y.sub hF rfl rfl) rfl fun a hF => ?_
                           refine oneV (i := 41) rfl ?_ trivial
                           refine guard_on hF rfl rfl hbv_19 ?_
                           refine O.callP (us := [.int .i64 (wr (rv_25.1.Low - rv_8.1.High)), .int .i64 (wr (rv_25.1.High - rv_8.1.Low))]) ca_37 hF hS (remontoirref00_To_ok hS.stab (wr (rv_25.1.Low - rv_8.1.High)) (wr (rv_25.1.High - rv_8.1.Low)) rv_27 hx_27) rfl rfl fun a w hF hS => ?_
                           refine nil (then_n ⟨hS.weak ⟨rfl, rfl, rfl, rfl, rfl, rfl, rfl, rfl, rfl, rfl, trivial⟩, ?_⟩)
                           refine oneV (i := 42) rfl ?_ trivial
                           refine guard_on hF rfl rfl hbv_19 ?_
                           refine O.callP (us := [.agg #[.int .i64 rv_21.1.Low, .int .i64 rv_21.1.High], .agg #[.int .i64 rv_27.Low, .int .i64 rv_27.High]]) ca_36 hF hS (remontoirref00_Within_ok hS.stab rv_21.1 rv_27 rv_28 hx_28) rfl rfl fun a w hF hS => ?_
                           refine nil (then_n ⟨hS.weak ⟨rfl, rfl, rfl, rfl, rfl, rfl, rfl, rfl, rfl, rfl, trivial⟩, ?_⟩)
                           refine stepV (i := 43) rfl hF (fun w hS => Y.pick_t hF rfl hbv_19 rfl) rfl fun a hF => ?_
                           refine stepV (i := 44) rfl hF (fun w hS => Y.move hF rfl) rfl fun a hF => ?_
                           refine stepV_on (i := 45) rfl hF rfl rfl hbv_20 (fun w hS => Y.loadNL 6 sz_34 hF rfl hS rfl rfl rfl) rfl fun a hF => ?_
                           refine stepV_on (i := 46) rfl hF rfl rfl hbv_20 (fun w hS => Y.fieldAddr fo_34_0 hF rfl) rfl fun a hF => ?_
                           refine stepV_on (i := 47) rfl hF rfl rfl hbv_20 (fun w hS => Y.load1L 8 sz_3 hF rfl hS rfl rfl) rfl fun a hF => ?_
                           refine stepV_on (i := 48) rfl hF rfl rfl hbv_20 (fun w hS => Y.fieldAddr fo_34_0 hF rfl) rfl fun a hF => ?_
                           refine stepV_on (i := 49) rfl hF rfl rfl hbv_20 (fun w hS => Y.load1L 9 sz_3 hF rfl hS rfl rfl) rfl fun a hF => ?_
                           refine stepV_on (i := 50) rfl hF rfl rfl hbv_20 (fun w hS => Y.add hF rfl rfl) rfl fun a hF => ?_
                           refine stepV_on (i := 51) rfl hF rfl rfl hbv_20 (fun w hS => Y.fieldAddr fo_34_1 hF rfl) rfl fun a hF => ?_
                           refine stepV_on (i := 52) rfl hF rfl rfl hbv_20 (fun w hS => Y.load1L 8 sz_3 hF rfl hS rfl rfl) rfl fun a hF => ?_
                           refine stepV_on (i := 53) rfl hF rfl rfl hbv_20 (fun w hS => Y.fieldAddr fo_34_1 hF rfl) rfl fun a hF => ?_
                           refine stepV_on (i := 54) rfl hF rfl rfl hbv_20 (fun w hS => Y.load1L 9 sz_3 hF rfl hS rfl rfl) rfl fun a hF => ?_
                           refine stepV_on (i := 55) rfl hF rfl rfl hbv_20 (fun w hS => Y.add hF rfl rfl) rfl fun a hF => ?_
                           refine oneV (i := 56) rfl ?_ trivial
                           refine guard_on hF rfl rfl hbv_20 ?_
                           refine O.callP (us := [.int .i64 (wr (rv_23.1.Low + rv_24.1.Low)), .int .i64 (wr (rv_23.1.High + rv_24.1.High))]) ca_37 hF hS (remontoirref00_To_ok hS.stab (wr (rv_23.1.Low + rv_24.1.Low)) (wr (rv_23.1.High + rv_24.1.High)) rv_29 hx_29) rfl rfl fun a w hF hS => ?_
                           refine nil (then_n ⟨hS.weak ⟨rfl, rfl, rfl, rfl, rfl, rfl, rfl, rfl, rfl, rfl, trivial⟩, ?_⟩)
                           refine oneV (i := 57) rfl ?_ trivial
                           refine guard_on hF rfl rfl hbv_20 ?_
                           refine O.callP (us := [.agg #[.int .i64 rv_21.1.Low, .int .i64 rv_21.1.High], .agg #[.int .i64 rv_29.Low, .int .i64 rv_29.High]]) ca_36 hF hS (remontoirref00_Within_ok hS.stab rv_21.1 rv_29 rv_30 hx_30) rfl rfl fun a w hF hS => ?_
                           refine nil (then_n ⟨hS.weak ⟨rfl, rfl, rfl, rfl, rfl, rfl, rfl, rfl, rfl, rfl, trivial⟩, ?_⟩)
                           refine stepV (i := 58) rfl hF (fun w hS => Y.pick_t hF rfl hbv_20 rfl) rfl fun a hF => ?_
                           refine stepV (i := 59) rfl hF (fun w hS => Y.move hF rfl) rfl fun a hF => ?_
                           refine stepV_on (i := 60) rfl hF rfl rfl hbv_21 (fun w hS => Y.move hF rfl) rfl fun a hF => ?_
                           refine stepV_on (i := 61) rfl hF rfl rfl hbv_21 (fun w hS => Y.move hF rfl) rfl fun a hF => ?_
                           refine stepV_on (i := 62) rfl hF rfl rfl hbv_21 (fun w hS => Y.neq hF rfl rfl) rfl fun a hF => ?_
                           refine stepV_on (i := 63) rfl hF rfl rfl hbv_21 (fun w hS => Y.move hF rfl) rfl fun a hF => ?_
                           refine stepV_off (i := 64) rfl hF rfl rfl hbv_22 rfl fun a hF => ?_
                           refine oneV (i := 65) rfl ?_ trivial
                           refine guard_off hF rfl rfl hbv_22 rfl fun a hF => nil (then_n ⟨hS.weak ⟨rfl, rfl, rfl, rfl, rfl, rfl, rfl, rfl, rfl, rfl, trivial⟩, ?_⟩)
                           refine stepV_off (i := 66) rfl hF rfl rfl hbv_22 rfl fun a hF => ?_
                           refine stepV_on (i := 67) rfl hF rfl rfl hbv_21 (fun w hS => Y.pick_t hF rfl hbv_22 rfl) rfl fun a hF => ?_
                           refine stepV (i := 68) rfl hF (fun w hS => Y.pick_t hF rfl hbv_21 rfl) rfl fun a hF => ?_
                           exact toTailV ⟨hF.weak ⟨rfl, rfl, trivial⟩, hS.weak ⟨rfl, rfl, rfl, rfl, rfl, rfl, rfl, rfl, rfl, rfl, trivial⟩⟩
                         ·as_aux_lemma =>
                           skip
                           replace ht_17 := cond_f ht_17 hbv_22
                           obtain ⟨rv_31, hx_31, ht_17⟩ := bind_some ht_17
                           obtain rfl := some_inj ht_17
                           refine stepV (i := 0) rfl hF (fun w hS => Y.move hF rfl) rfl fun a hF => ?_
                           refine stepV (i := 1) rfl hF (fun w hS => Y.eql hF rfl rfl) rfl fun a hF => ?_
                           refine stepV (i := 2) rfl hF (fun w hS => Y.move hF rfl) rfl fun a hF => ?_
                           refine stepV_on (i := 3) rfl hF rfl rfl hbv_14 (fun w hS => Y.move hF rfl) rfl fun a hF => ?_
                           refine stepV_on (i := 4) rfl hF rfl rfl hbv_14 (fun w hS => Y.eql hF rfl rfl) rfl fun a hF => ?_
                           refine stepV (i := 5) rfl hF (fun w hS => Y.pick_t hF rfl hbv_14 rfl) rfl fun a hF => ?_
                           refine stepV (i := 6) rfl hF (fun w hS => Y.move hF rfl) rfl fun a hF => ?_
                           refine stepV_on (i := 7) rfl hF rfl rfl hbv_15 (fun w hS => Y.move hF rfl) rfl fun a hF => ?_
                           refine stepV_on (i := 8) rfl hF rfl rfl hbv_15 (fun w hS => Y.eql hF rfl rfl) rfl fun a hF => ?_
                           refine stepV (i := 9) rfl hF (fun w hS => Y.pick_t hF rfl hbv_15 rfl) rfl fun a hF => ?_
                           refine stepV (i := 10) rfl hF (fun w hS => Y.move hF rfl) rfl fun a hF => ?_
                           refine stepV_on (i := 11) rfl hF rfl rfl hbv_16 (fun w hS => Y.move hF rfl) rfl fun a hF => ?_
                           refine stepV_on (i := 12) rfl hF rfl rfl hbv_16 (fun w hS => Y.eql hF rfl rfl) rfl fun a hF => ?_
                           refine stepV (i := 13) rfl hF (fun w hS => Y.pick_t hF rfl hbv_16 rfl) rfl fun a hF => ?_
                           refine stepV (i := 14) rfl hF (fun w hS => Y.move hF rfl) rfl fun a hF => ?_
                           refine stepV_on (i := 15) rfl hF rfl rfl hbv_17 (fun w hS => Y.move hF rfl) rfl fun a hF => ?_
                           refine stepV_on (i := 16) rfl hF rfl rfl hbv_17 (fun w hS => Y.eql hF rfl rfl) rfl fun a hF => ?_
                           refine stepV (i := 17) rfl hF (fun w hS => Y.pick_t hF rfl hbv_17 rfl) rfl fun a hF => ?_
                           refine stepV (i := 18) rfl hF (fun w hS => Y.move hF rfl) rfl fun a hF => ?_
                           refine stepV_on (i := 19) rfl hF rfl rfl hbv_18 (fun w hS => Y.loadNL 7 sz_34 hF rfl hS rfl rfl rfl) rfl fun a hF => ?_
                           refine stepV_on (i := 20) rfl hF rfl rfl hbv_18 (fun w hS => Y.fieldAddr fo_34_1 hF rfl) rfl fun a hF => ?_
                           refine stepV_on (i := 21) rfl hF rfl rfl hbv_18 (fun w hS => Y.load1L 6 sz_3 hF rfl hS rfl rfl) rfl fun a hF => ?_
                           refine stepV_on (i := 22) rfl hF rfl rfl hbv_18 (fun w hS => Y.neg hF rfl) rfl fun a hF => ?_
                           refine stepV_on (i := 23) rfl hF rfl rfl hbv_18 (fun w hS => Y.fieldAddr fo_34_0 hF rfl) rfl fun a hF => ?_
                           refine stepV_on (i := 24) rfl hF rfl rfl hbv_18 (fun w hS => Y.load1L 6 sz_3 hF rfl hS rfl rfl) rfl fun a hF => ?_
                           refine stepV_on (i := 25) rfl hF rfl rfl hbv_18 (fun w hS => Y.neg hF rfl) rfl fun a hF => ?_
                           refine oneV (i := 26) rfl ?_ trivial
                           refine guard_on hF rfl rfl hbv_18 ?_
                           refine O.callP (us := [.int .i64 (wr (0 - rv_21.1.High)), .int .i64 (wr (0 - rv_21.1.Low))]) ca_37 hF hS (remontoirref00_To_ok hS.stab (wr (0 - rv_21.1.High)) (wr (0 - rv_21.1.Low)) rv_26 hx_26) rfl rfl fun a w hF hS => ?_
                           refine nil (then_n ⟨hS.weak ⟨rfl, rfl, rfl, rfl, rfl, rfl, rfl, rfl, rfl, rfl, trivial⟩, ?_⟩)
                           refine stepV_on (i := 27) rfl hF rfl rfl hbv_18 (fun w hS => Y.eqst (fun w => eqT_34.equal (by decide) (l := [rv_22.1.Low, rv_22.1.High]) (m := [rv_26.Low, rv_26.High]) rfl rfl) (fun w => run_eqGuard_agg _ _ _ _ _ _ _ eg_34) hF rfl rfl) rfl fun a hF => ?_
                           refine stepV (i := 28) rfl hF (fun w hS => Y.pick_t hF rfl hbv_18 rfl) rfl fun a hF => ?_
                           refine stepV (i := 29) rfl hF (fun w hS => Y.move hF rfl) rfl fun a hF => ?_
                           refine stepV_on (i := 30) rfl hF rfl rfl hbv_19 (fun w hS => Y.loadNL 6 sz_34 hF rfl hS rfl rfl rfl) rfl fun a hF => ?_
                           refine stepV_on (i := 31) rfl hF rfl rfl hbv_19 (fun w hS => Y.fieldAddr fo_34_0 hF rfl) rfl fun a hF => ?_
                           refine stepV_on (i := 32) rfl hF rfl rfl hbv_19 (fun w hS => Y.load1L 10 sz_3 hF rfl hS rfl rfl) rfl fun a hF => ?_
                           refine stepV_on (i := 33) rfl hF rfl rfl hbv_19 (fun w hS => Y.fieldAddr fo_34_1 hF rfl) rfl fun a hF => ?_
                           refine stepV_on (i := 34) rfl hF rfl rfl hbv_19 (fun w hS => Y.load1L 4 sz_3 hF rfl hS rfl rfl) rfl fun a hF => ?_
                           refine stepV_on (i := 35) rfl hF rfl rfl hbv_19 (fun w hS => Y.sub hF rfl rfl) rfl fun a hF => ?_
                           refine stepV_on (i := 36) rfl hF rfl rfl hbv_19 (fun w hS => Y.fieldAddr fo_34_1 hF rfl) rfl fun a hF => ?_
                           refine stepV_on (i := 37) rfl hF rfl rfl hbv_19 (fun w hS => Y.load1L 10 sz_3 hF rfl hS rfl rfl) rfl fun a hF => ?_
                           refine stepV_on (i := 38) rfl hF rfl rfl hbv_19 (fun w hS => Y.fieldAddr fo_34_0 hF rfl) rfl fun a hF => ?_
                           refine stepV_on (i := 39) rfl hF rfl rfl hbv_19 (fun w hS => Y.load1L 4 sz_3 hF rfl hS rfl rfl) rfl fun a hF => ?_
                           refine stepV_on (i := 40) rfl hF rfl rfl hbv_19 (fun w hS => Y.sub hF rfl rfl) rfl fun a hF => ?_
                           refine oneV (i := 41) rfl ?_ trivial
                           refine guard_on hF rfl rfl hbv_19 ?_
                           refine O.callP (us := [.int .i64 (wr (rv_25.1.Low - rv_8.1.High)), .int .i64 (wr (rv_25.1.High - rv_8.1.Low))]) ca_37 hF hS (remontoirref00_To_ok hS.stab (wr (rv_25.1.Low - rv_8.1.High)) (wr (rv_25.1.High - rv_8.1.Low)) rv_27 hx_27) rfl rfl fun a w hF hS => ?_
                           refine nil (then_n ⟨hS.weak ⟨rfl, rfl, rfl, rfl, rfl, rfl, rfl, rfl, rfl, rfl, trivial⟩, ?_⟩)
                           refine oneV (i := 42) rfl ?_ trivial
                           refine guard_on hF rfl rfl hbv_19 ?_
                           refine O.callP (us := [.agg #[.int .i64 rv_21.1.Low, .int .i64 rv_21.1.High], .agg #[.int .i64 rv_27.Low, .int .i64 rv_27.High]]) ca_36 hF hS (remontoirref00_Within_ok hS.stab rv_21.1 rv_27 rv_28 hx_28) rfl rfl fun a w hF hS => ?_
                           refine nil (then_n ⟨hS.weak ⟨rfl, rfl, rfl, rfl, rfl, rfl, rfl, rfl, rfl, rfl, trivial⟩, ?_⟩)
                           refine stepV (i := 43) rfl hF (fun w hS => Y.pick_t hF rfl hbv_19 rfl) rfl fun a hF => ?_
                           refine stepV (i := 44) rfl hF (fun w hS => Y.move hF rfl) rfl fun a hF => ?_
                           refine stepV_on (i := 45) rfl hF rfl rfl hbv_20 (fun w hS => Y.loadNL 6 sz_34 hF rfl hS rfl rfl rfl) rfl fun a hF => ?_
                           refine stepV_on (i := 46) rfl hF rfl rfl hbv_20 (fun w hS => Y.fieldAddr fo_34_0 hF rfl) rfl fun a hF => ?_
                           refine stepV_on (i := 47) rfl hF rfl rfl hbv_20 (fun w hS => Y.load1L 8 sz_3 hF rfl hS rfl rfl) rfl fun a hF => ?_
                           refine stepV_on (i := 48) rfl hF rfl rfl hbv_20 (fun w hS => Y.fieldAddr fo_34_0 hF rfl) rfl fun a hF => ?_
                           refine stepV_on (i := 49) rfl hF rfl rfl hbv_20 (fun w hS => Y.load1L 9 sz_3 hF rfl hS rfl rfl) rfl fun a hF => ?_
                           refine stepV_on (i := 50) rfl hF rfl rfl hbv_20 (fun w hS => Y.add hF rfl rfl) rfl fun a hF => ?_
                           refine stepV_on (i := 51) rfl hF rfl rfl hbv_20 (fun w hS => Y.fieldAddr fo_34_1 hF rfl) rfl fun a hF => ?_
                           refine stepV_on (i := 52) rfl hF rfl rfl hbv_20 (fun w hS => Y.load1L 8 sz_3 hF rfl hS rfl rfl) rfl fun a hF => ?_
                           refine stepV_on (i := 53) rfl hF rfl rfl hbv_20 (fun w hS => Y.fieldAddr fo_34_1 hF rfl) rfl fun a hF => ?_
                           refine stepV_on (i := 54) rfl hF rfl rfl hbv_20 (fun w hS => Y.load1L 9 sz_3 hF rfl hS rfl rfl) rfl fun a hF => ?_
                           refine stepV_on (i := 55) rfl hF rfl rfl hbv_20 (fun w hS => Y.add hF rfl rfl) rfl fun a hF => ?_
                           refine oneV (i := 56) rfl ?_ trivial
                           refine guard_on hF rfl rfl hbv_20 ?_
                           refine O.callP (us := [.int .i64 (wr (rv_23.1.Low + rv_24.1.Low)), .int .i64 (wr (rv_23.1.High + rv_24.1.High))]) ca_37 hF hS (remontoirref00_To_ok hS.stab (wr (rv_23.1.Low + rv_24.1.Low)) (wr (rv_23.1.High + rv_24.1.High)) rv_29 hx_29) rfl rfl fun a w hF hS => ?_
                           refine nil (then_n ⟨hS.weak ⟨rfl, rfl, rfl, rfl, rfl, rfl, rfl, rfl, rfl, rfl, trivial⟩, ?_⟩)
                           refine oneV (i := 57) rfl ?_ trivial
                           refine guard_on hF rfl rfl hbv_20 ?_
                           refine O.callP (us := [.agg #[.int .i64 rv_21.1.Low, .int .i64 rv_21.1.High], .agg #[.int .i64 rv_29.Low, .int .i64 rv_29.High]]) ca_36 hF hS (remontoirref00_Within_ok hS.stab rv_21.1 rv_29 rv_30 hx_30) rfl rfl fun a w hF hS => ?_
                           refine nil (then_n ⟨hS.weak ⟨rfl, rfl, rfl, rfl, rfl, rfl, rfl, rfl, rfl, rfl, trivial⟩, ?_⟩)
                           refine stepV (i := 58) rfl hF (fun w hS => Y.pick_t hF rfl hbv_20 rfl) rfl fun a hF => ?_
                           refine stepV (i := 59) rfl hF (fun w hS => Y.move hF rfl) rfl fun a hF => ?_
                           refine stepV_on (i := 60) rfl hF rfl rfl hbv_21 (fun w hS => Y.move hF rfl) rfl fun a hF => ?_
                           refine stepV_on (i := 61) rfl hF rfl rfl hbv_21 (fun w hS => Y.move hF rfl) rfl fun a hF => ?_
                           refine stepV_on (i := 62) rfl hF rfl rfl hbv_21 (fun w hS => Y.neq hF rfl rfl) rfl fun a hF => ?_
                           refine stepV_on (i := 63) rfl hF rfl rfl hbv_21 (fun w hS => Y.move hF rfl) rfl fun a hF => ?_
                           refine stepV_on (i := 64) rfl hF rfl rfl hbv_22 (fun w hS => Y.loadNL 6 sz_34 hF rfl hS rfl rfl rfl) rfl fun a hF => ?_
                           refine oneV (i := 65) rfl ?_ trivial
                           refine guard_on hF rfl rfl hbv_22 ?_
                           refine O.callP (us := [.int .i64 0, .int .i64 0]) ca_37 hF hS (remontoirref00_To_ok hS.stab 0 0 rv_31 hx_31) rfl rfl fun a w hF hS => ?_
                           refine nil (then_n ⟨hS.weak ⟨rfl, rfl, rfl, rfl, rfl, rfl, rfl, rfl, rfl, rfl, trivial⟩, ?_⟩)
                           refine stepV_on (i := 66) rfl hF rfl rfl hbv_22 (fun w hS => Y.eqst (fun w => eqT_34.equal (by decide) (l := [rv_21.1.Low, rv_21.1.High]) (m := [rv_31.Low, rv_31.High]) rfl rfl) (fun w => run_eqGuard_agg _ _ _ _ _ _ _ eg_34) hF rfl rfl) rfl fun a hF => ?_
                           refine stepV_on (i := 67) rfl hF rfl rfl hbv_21 (fun w hS => Y.pick_f hF rfl hbv_22 rfl) rfl fun a hF => ?_
                           refine stepV (i := 68) rfl hF (fun w hS => Y.pick_t hF rfl hbv_21 rfl) rfl fun a hF => ?_
                           exact toTailV ⟨hF.weak ⟨rfl, rfl, trivial⟩, hS.weak ⟨rfl, rfl, rfl, rfl, rfl, rfl, rfl, rfl, rfl, rfl, trivial⟩⟩
                       ·as_aux_lemma =>
                         skip
                         replace ht_18 := cond_f ht_18 hbv_21
                         obtain rfl := some_inj ht_18
                         refine stepV (i := 0) rfl hF (fun w hS => Y.move hF rfl) rfl fun a hF => ?_
                         refine stepV (i := 1) rfl hF (fun w hS => Y.eql hF rfl rfl) rfl fun a hF => ?_
                         refine stepV (i := 2) rfl hF (fun w hS => Y.move hF rfl) rfl fun a hF => ?_
                         refine stepV_on (i := 3) rfl hF rfl rfl hbv_14 (fun w hS => Y.move hF rfl) rfl fun a hF => ?_
                         refine stepV_on (i := 4) rfl hF rfl rfl hbv_14 (fun w hS => Y.eql hF rfl rfl) rfl fun a hF => ?_
                         refine stepV (i := 5) rfl hF (fun w hS => Y.pick_t hF rfl hbv_14 rfl) rfl fun a hF => ?_
                         refine stepV (i := 6) rfl hF (fun w hS => Y.move hF rfl) rfl fun a hF => ?_
                         refine stepV_on (i := 7) rfl hF rfl rfl hbv_15 (fun w hS => Y.move hF rfl) rfl fun a hF => ?_
                         refine stepV_on (i := 8) rfl hF rfl rfl hbv_15 (fun w hS => Y.eql hF rfl rfl) rfl fun a hF => ?_
                         refine stepV (i := 9) rfl hF (fun w hS => Y.pick_t hF rfl hbv_15 rfl) rfl fun a hF => ?_
                         refine stepV (i := 10) rfl hF (fun w hS => Y.move hF rfl) rfl fun a hF => ?_
                         refine stepV_on (i := 11) rfl hF rfl rfl hbv_16 (fun w hS => Y.move hF rfl) rfl fun a hF => ?_
                         refine stepV_on (i := 12) rfl hF rfl rfl hbv_16 (fun w hS => Y.eql hF rfl rfl) rfl fun a hF => ?_
                         refine stepV (i := 13) rfl hF (fun w hS => Y.pick_t hF rfl hbv_16 rfl) rfl fun a hF => ?_
                         refine stepV (i := 14) rfl hF (fun w hS => Y.move hF rfl) rfl fun a hF => ?_
                         refine stepV_on (i := 15) rfl hF rfl rfl hbv_17 (fun w hS => Y.move hF rfl) rfl fun a hF => ?_
                         refine stepV_on (i := 16) rfl hF rfl rfl hbv_17 (fun w hS => Y.eql hF rfl rfl) rfl fun a hF => ?_
                         refine stepV (i := 17) rfl hF (fun w hS => Y.pick_t hF rfl hbv_17 rfl) rfl fun a hF => ?_
                         refine stepV (i := 18) rfl hF (fun w hS => Y.move hF rfl) rfl fun a hF => ?_
                         refine stepV_on (i := 19) rfl hF rfl rfl hbv_18 (fun w hS => Y.loadNL 7 sz_34 hF rfl hS rfl rfl rfl) rfl fun a hF => ?_
                         refine stepV_on (i := 20) rfl hF rfl rfl hbv_18 (fun w hS => Y.fieldAddr fo_34_1 hF rfl) rfl fun a hF => ?_
                         refine stepV_on (i := 21) rfl hF rfl rfl hbv_18 (fun w hS => Y.load1L 6 sz_3 hF rfl hS rfl rfl) rfl fun a hF => ?_
                         refine stepV_on (i := 22) rfl hF rfl rfl hbv_18 (fun w hS => Y.neg hF rfl) rfl fun a hF => ?_
                         refine stepV_on (i := 23) rfl hF rfl rfl hbv_18 (fun w hS => Y.fieldAddr fo_34_0 hF rfl) rfl fun a hF => ?_
                         refine stepV_on (i := 24) rfl hF rfl rfl hbv_18 (fun w hS => Y.load1L 6 sz_3 hF rfl hS rfl rfl) rfl fun a hF => ?_
                         refine stepV_on (i := 25) rfl hF rfl rfl hbv_18 (fun w hS => Y.neg hF rfl) rfl fun a hF => ?_
                         refine oneV (i := 26) rfl ?_ trivial
                         refine guard_on hF rfl rfl hbv_18 ?_
                         refine O.callP (us := [.int .i64 (wr (0 - rv_21.1.High)), .int .i64 (wr (0 - rv_21.1.Low))]) ca_37 hF hS (remontoirref00_To_ok hS.stab (wr (0 - rv_21.1.High)) (wr (0 - rv_21.1.Low)) rv_26 hx_26) rfl rfl fun a w hF hS => ?_
                         refine nil (then_n ⟨hS.weak ⟨rfl, rfl, rfl, rfl, rfl, rfl, rfl, rfl, rfl, rfl, trivial⟩, ?_⟩)
                         refine stepV_on (i := 27) rfl hF rfl rfl hbv_18 (fun w hS => Y.eqst (fun w => eqT_34.equal (by decide) (l := [rv_22.1.Low, rv_22.1.High]) (m := [rv_26.Low, rv_26.High]) rfl rfl) (fun w => run_eqGuard_agg _ _ _ _ _ _ _ eg_34) hF rfl rfl) rfl fun a hF => ?_
                         refine stepV (i := 28) rfl hF (fun w hS => Y.pick_t hF rfl hbv_18 rfl) rfl fun a hF => ?_
                         refine stepV (i := 29) rfl hF (fun w hS => Y.move hF rfl) rfl fun a hF => ?_
                         refine stepV_on (i := 30) rfl hF rfl rfl hbv_19 (fun w hS => Y.loadNL 6 sz_34 hF rfl hS rfl rfl rfl) rfl fun a hF => ?_
                         refine stepV_on (i := 31) rfl hF rfl rfl hbv_19 (fun w hS => Y.fieldAddr fo_34_0 hF rfl) rfl fun a hF => ?_
                         refine stepV_on (i := 32) rfl hF rfl rfl hbv_19 (fun w hS => Y.load1L 10 sz_3 hF rfl hS rfl rfl) rfl fun a hF => ?_
                         refine stepV_on (i := 33) rfl hF rfl rfl hbv_19 (fun w hS => Y.fieldAddr fo_34_1 hF rfl) rfl fun a hF => ?_
                         refine stepV_on (i := 34) rfl hF rfl rfl hbv_19 (fun w hS => Y.load1L 4 sz_3 hF rfl hS rfl rfl) rfl fun a hF => ?_
                         refine stepV_on (i := 35) rfl hF rfl rfl hbv_19 (fun w hS => Y.sub hF rfl rfl) rfl fun a hF => ?_
                         refine stepV_on (i := 36) rfl hF rfl rfl hbv_19 (fun w hS => Y.fieldAddr fo_34_1 hF rfl) rfl fun a hF => ?_
                         refine stepV_on (i := 37) rfl hF rfl rfl hbv_19 (fun w hS => Y.load1L 10 sz_3 hF rfl hS rfl rfl) rfl fun a hF => ?_
                         refine stepV_on (i := 38) rfl hF rfl rfl hbv_19 (fun w hS => Y.fieldAddr fo_34_0 hF rfl) rfl fun a hF => ?_
                         refine stepV_on (i := 39) rfl hF rfl rfl hbv_19 (fun w hS => Y.load1L 4 sz_3 hF rfl hS rfl rfl) rfl fun a hF => ?_
                         refine stepV_on (i := 40) rfl hF rfl rfl hbv_19 (fun w hS => Y.sub hF rfl rfl) rfl fun a hF => ?_
                         refine oneV (i := 41) rfl ?_ trivial
                         refine guard_on hF rfl rfl hbv_19 ?_
                         refine O.callP (us := [.int .i64 (wr (rv_25.1.Low - rv_8.1.High)), .int .i64 (wr (rv_25.1.High - rv_8.1.Low))]) ca_37 hF hS (remontoirref00_To_ok hS.stab (wr (rv_25.1.Low - rv_8.1.High)) (wr (rv_25.1.High - rv_8.1.Low)) rv_27 hx_27) rfl rfl fun a w hF hS => ?_
                         refine nil (then_n ⟨hS.weak ⟨rfl, rfl, rfl, rfl, rfl, rfl, rfl, rfl, rfl, rfl, trivial⟩, ?_⟩)
                         refine oneV (i := 42) rfl ?_ trivial
                         refine guard_on hF rfl rfl hbv_19 ?_
                         refine O.callP (us := [.agg #[.int .i64 rv_21.1.Low, .int .i64 rv_21.1.High], .agg #[.int .i64 rv_27.Low, .int .i64 rv_27.High]]) ca_36 hF hS (remontoirref00_Within_ok hS.stab rv_21.1 rv_27 rv_28 hx_28) rfl rfl fun a w hF hS => ?_
                         refine nil (then_n ⟨hS.weak ⟨rfl, rfl, rfl, rfl, rfl, rfl, rfl, rfl, rfl, rfl, trivial⟩, ?_⟩)
                         refine stepV (i := 43) rfl hF (fun w hS => Y.pick_t hF rfl hbv_19 rfl) rfl fun a hF => ?_
                         refine stepV (i := 44) rfl hF (fun w hS => Y.move hF rfl) rfl fun a hF => ?_
                         refine stepV_on (i := 45) rfl hF rfl rfl hbv_20 (fun w hS => Y.loadNL 6 sz_34 hF rfl hS rfl rfl rfl) rfl fun a hF => ?_
                         refine stepV_on (i := 46) rfl hF rfl rfl hbv_20 (fun w hS => Y.fieldAddr fo_34_0 hF rfl) rfl fun a hF => ?_
                         refine stepV_on (i := 47) rfl hF rfl rfl hbv_20 (fun w hS => Y.load1L 8 sz_3 hF rfl hS rfl rfl) rfl fun a hF => ?_
                         refine stepV_on (i := 48) rfl hF rfl rfl hbv_20 (fun w hS => Y.fieldAddr fo_34_0 hF rfl) rfl fun a hF => ?_
                         refine stepV_on (i := 49) rfl hF rfl rfl hbv_20 (fun w hS => Y.load1L 9 sz_3 hF rfl hS rfl rfl) rfl fun a hF => ?_
                         refine stepV_on (i := 50) rfl hF rfl rfl hbv_20 (fun w hS => Y.add hF rfl rfl) rfl fun a hF => ?_
                         refine stepV_on (i := 51) rfl hF rfl rfl hbv_20 (fun w hS => Y.fieldAddr fo_34_1 hF rfl) rfl fun a hF => ?_
                         refine stepV_on (i := 52) rfl hF rfl rfl hbv_20 (fun w hS => Y.load1L 8 sz_3 hF rfl hS rfl rfl) rfl fun a hF => ?_
                         refine stepV_on (i := 53) rfl hF rfl rfl hbv_20 (fun w hS => Y.fieldAddr fo_34_1 hF rfl) rfl fun a hF => ?_
                         refine stepV_on (i := 54) rfl hF rfl rfl hbv_20 (fun w hS => Y.load1L 9 sz_3 hF rfl hS rfl rfl) rfl fun a hF => ?_
                         refine stepV_on (i := 55) rfl hF rfl rfl hbv_20 (fun w hS => Y.add hF rfl rfl) rfl fun a hF => ?_
                         refine oneV (i := 56) rfl ?_ trivial
                         refine guard_on hF rfl rfl hbv_20 ?_
                         refine O.callP (us := [.int .i64 (wr (rv_23.1.Low + rv_24.1.Low)), .int .i64 (wr (rv_23.1.High + rv_24.1.High))]) ca_37 hF hS (remontoirref00_To_ok hS.stab (wr (rv_23.1.Low + rv_24.1.Low)) (wr (rv_23.1.High + rv_24.1.High)) rv_29 hx_29) rfl rfl fun a w hF hS => ?_
                         refine nil (then_n ⟨hS.weak ⟨rfl, rfl, rfl, rfl, rfl, rfl, rfl, rfl, rfl, rfl, trivial⟩, ?_⟩)
                         refine oneV (i := 57) rfl ?_ trivial
                         refine guard_on hF rfl rfl hbv_20 ?_
                         refine O.callP (us := [.agg #[.int .i64 rv_21.1.Low, .int .i64 rv_21.1.High], .agg #[.int .i64 rv_29.Low, .int .i64 rv_29.High]]) ca_36 hF hS (remontoirref00_Within_ok hS.stab rv_21.1 rv_29 rv_30 hx_30) rfl rfl fun a w hF hS => ?_
                         refine nil (then_n ⟨hS.weak ⟨rfl, rfl, rfl, rfl, rfl, rfl, rfl, rfl, rfl, rfl, trivial⟩, ?_⟩)
                         refine stepV (i := 58) rfl hF (fun w hS => Y.pick_t hF rfl hbv_20 rfl) rfl fun a hF => ?_
                         refine stepV (i := 59) rfl hF (fun w hS => Y.move hF rfl) rfl fun a hF => ?_
                         refine stepV_off (i := 60) rfl hF rfl rfl hbv_21 rfl fun a hF => ?_
                         refine stepV_off (i := 61) rfl hF rfl rfl hbv_21 rfl fun a hF => ?_
                         refine stepV_off (i := 62) rfl hF rfl rfl hbv_21 rfl fun a hF => ?_
                         refine stepV_off (i := 63) rfl hF rfl rfl hbv_21 rfl fun a hF => ?_
                         refine stepV_offu (i := 64) rfl hF rfl rfl rfl fun a hF => ?_
                         refine oneV (i := 65) rfl ?_ trivial
                         refine guard_offu hF rfl rfl rfl fun a hF => nil (then_n ⟨hS.weak ⟨rfl, rfl, rfl, rfl, rfl, rfl, rfl, rfl, rfl, rfl, trivial⟩, ?_⟩)
                         refine stepV_offu (i := 66) rfl hF rfl rfl rfl fun a hF => ?_
                         refine stepV_off (i := 67) rfl hF rfl rfl hbv_21 rfl fun a hF => ?_
                         refine stepV (i := 68) rfl hF (fun w hS => Y.pick_f hF rfl hbv_21 rfl) rfl fun a hF => ?_
                         exact toTailV ⟨hF.weak ⟨rfl, rfl, trivial⟩, hS.weak ⟨rfl, rfl, rfl, rfl, rfl, rfl, rfl, rfl, rfl, rfl, trivial⟩⟩
                     ·as_aux_lemma =>
                       skip
                       replace ht_16 := cond_f ht_16 hbv_20
                       obtain rfl := some_inj ht_16
                       replace ht_18 := cond_f ht_18 rfl
                       obtain rfl := some_inj ht_18
                       refine stepV (i := 0) rfl hF (fun w hS => Y.move hF rfl) rfl fun a hF => ?_
                       refine stepV (i := 1) rfl hF (fun w hS => Y.eql hF rfl rfl) rfl fun a hF => ?_
                       refine stepV (i := 2) rfl hF (fun w hS => Y.move hF rfl) rfl fun a hF => ?_
                       refine stepV_on (i := 3) rfl hF rfl rfl hbv_14 (fun w hS => Y.move hF rfl) rfl fun a hF => ?_
                       refine stepV_on (i := 4) rfl hF rfl rfl hbv_14 (fun w hS => Y.eql hF rfl rfl) rfl fun a hF => ?_
                       refine stepV (i := 5) rfl hF (fun w hS => Y.pick_t hF rfl hbv_14 rfl) rfl fun a hF => ?_
                       refine stepV (i := 6) rfl hF (fun w hS => Y.move hF rfl) rfl fun a hF => ?_
                       refine stepV_on (i := 7) rfl hF rfl rfl hbv_15 (fun w hS => Y.move hF rfl) rfl fun a hF => ?_
                       refine stepV_on (i := 8) rfl hF rfl rfl hbv_15 (fun w hS => Y.eql hF rfl rfl) rfl fun a hF => ?_
                       refine stepV (i := 9) rfl hF (fun w hS => Y.pick_t hF rfl hbv_15 rfl) rfl fun a hF => ?_
                       refine stepV (i := 10) rfl hF (fun w hS => Y.move hF rfl) rfl fun a hF => ?_
                       refine stepV_on (i := 11) rfl hF rfl rfl hbv_16 (fun w hS => Y.move hF rfl) rfl fun a hF => ?_
                       refine stepV_on (i := 12) rfl hF rfl rfl hbv_16 (fun w hS => Y.eql hF rfl rfl) rfl fun a hF => ?_
                       refine stepV (i := 13) rfl hF (fun w hS => Y.pick_t hF rfl hbv_16 rfl) rfl fun a hF => ?_
                       refine stepV (i := 14) rfl hF (fun w hS => Y.move hF rfl) rfl fun a hF => ?_
                       refine stepV_on (i := 15) rfl hF rfl rfl hbv_17 (fun w hS => Y.move hF rfl) rfl fun a hF => ?_
                       refine stepV_on (i := 16) rfl hF rfl rfl hbv_17 (fun w hS => Y.eql hF rfl rfl) rfl fun a hF => ?_
                       refine stepV (i := 17) rfl hF (fun w hS => Y.pick_t hF rfl hbv_17 rfl) rfl fun a hF => ?_
                       refine stepV (i := 18) rfl hF (fun w hS => Y.move hF rfl) rfl fun a hF => ?_
                       refine stepV_on (i := 19) rfl hF rfl rfl hbv_18 (fun w hS => Y.loadNL 7 sz_34 hF rfl hS rfl rfl rfl) rfl fun a hF => ?_
                       refine stepV_on (i := 20) rfl hF rfl rfl hbv_18 (fun w hS => Y.fieldAddr fo_34_1 hF rfl) rfl fun a hF => ?_
                       refine stepV_on (i := 21) rfl hF rfl rfl hbv_18 (fun w hS => Y.load1L 6 sz_3 hF rfl hS rfl rfl) rfl fun a hF => ?_
                       refine stepV_on (i := 22) rfl hF rfl rfl hbv_18 (fun w hS => Y.neg hF rfl) rfl fun a hF => ?_
                       refine stepV_on (i := 23) rfl hF rfl rfl hbv_18 (fun w hS => Y.fieldAddr fo_34_0 hF rfl) rfl fun a hF => ?_
                       refine stepV_on (i := 24) rfl hF rfl rfl hbv_18 (fun w hS => Y.load1L 6 sz_3 hF rfl hS rfl rfl) rfl fun a hF => ?_
                       refine stepV_on (i := 25) rfl hF rfl rfl hbv_18 (fun w hS => Y.neg hF rfl) rfl fun a hF => ?_
                       refine oneV (i := 26) rfl ?_ trivial
                       refine guard_on hF rfl rfl hbv_18 ?_
                       refine O.callP (us := [.int .i64 (wr (0 - rv_21.1.High)), .int .i64 (wr (0 - rv_21.1.Low))]) ca_37 hF hS (remontoirref00_To_ok hS.stab (wr (0 - rv_21.1.High)) (wr (0 - rv_21.1.Low)) rv_26 hx_26) rfl rfl fun a w hF hS => ?_
                       refine nil (then_n ⟨hS.weak ⟨rfl, rfl, rfl, rfl, rfl, rfl, rfl, rfl, rfl, rfl, trivial⟩, ?_⟩)
                       refine stepV_on (i := 27) rfl hF rfl rfl hbv_18 (fun w hS => Y.eqst (fun w => eqT_34.equal (by decide) (l := [rv_22.1.Low, rv_22.1.High]) (m := [rv_26.Low, rv_26.High]) rfl rfl) (fun w => run_eqGuard_agg _ _ _ _ _ _ _ eg_34) hF rfl rfl) rfl fun a hF => ?_
                       refine stepV (i := 28) rfl hF (fun w hS => Y.pick_t hF rfl hbv_18 rfl) rfl fun a hF => ?_
                       refine stepV (i := 29) rfl hF (fun w hS => Y.move hF rfl) rfl fun a hF => ?_
                       refine stepV_on (i := 30) rfl hF rfl rfl hbv_19 (fun w hS => Y.loadNL 6 sz_34 hF rfl hS rfl rfl rfl) rfl fun a hF => ?_
                       refine stepV_on (i := 31) rfl hF rfl rfl hbv_19 (fun w hS => Y.fieldAddr fo_34_0 hF rfl) rfl fun a hF => ?_
                       refine stepV_on (i := 32) rfl hF rfl rfl hbv_19 (fun w hS => Y.load1L 10 sz_3 hF rfl hS rfl rfl) rfl fun a hF => ?_
                       refine stepV_on (i := 33) rfl hF rfl rfl hbv_19 (fun w hS => Y.fieldAddr fo_34_1 hF rfl) rfl fun a hF => ?_
                       refine stepV_on (i := 34) rfl hF rfl rfl hbv_19 (fun w hS => Y.load1L 4 sz_3 hF rfl hS rfl rfl) rfl fun a hF => ?_
                       refine stepV_on (i := 35) rfl hF rfl rfl hbv_19 (fun w hS => Y.sub hF rfl rfl) rfl fun a hF => ?_
                       refine stepV_on (i := 36) rfl hF rfl rfl hbv_19 (fun w hS => Y.fieldAddr fo_34_1 hF rfl) rfl fun a hF => ?_
                       refine stepV_on (i := 37) rfl hF rfl rfl hbv_19 (fun w hS => Y.load1L 10 sz_3 hF rfl hS rfl rfl) rfl fun a hF => ?_
                       refine stepV_on (i := 38) rfl hF rfl rfl hbv_19 (fun w hS => Y.fieldAddr fo_34_0 hF rfl) rfl fun a hF => ?_
                       refine stepV_on (i := 39) rfl hF rfl rfl hbv_19 (fun w hS => Y.load1L 4 sz_3 hF rfl hS rfl rfl) rfl fun a hF => ?_
                       refine stepV_on (i := 40) rfl hF rfl rfl hbv_19 (fun w hS => Y.sub hF rfl rfl) rfl fun a hF => ?_
                       refine oneV (i := 41) rfl ?_ trivial
                       refine guard_on hF rfl rfl hbv_19 ?_
                       refine O.callP (us := [.int .i64 (wr (rv_25.1.Low - rv_8.1.High)), .int .i64 (wr (rv_25.1.High - rv_8.1.Low))]) ca_37 hF hS (remontoirref00_To_ok hS.stab (wr (rv_25.1.Low - rv_8.1.High)) (wr (rv_25.1.High - rv_8.1.Low)) rv_27 hx_27) rfl rfl fun a w hF hS => ?_
                       refine nil (then_n ⟨hS.weak ⟨rfl, rfl, rfl, rfl, rfl, rfl, rfl, rfl, rfl, rfl, trivial⟩, ?_⟩)
                       refine oneV (i := 42) rfl ?_ trivial
                       refine guard_on hF rfl rfl hbv_19 ?_
                       refine O.callP (us := [.agg #[.int .i64 rv_21.1.Low, .int .i64 rv_21.1.High], .agg #[.int .i64 rv_27.Low, .int .i64 rv_27.High]]) ca_36 hF hS (remontoirref00_Within_ok hS.stab rv_21.1 rv_27 rv_28 hx_28) rfl rfl fun a w hF hS => ?_
                       refine nil (then_n ⟨hS.weak ⟨rfl, rfl, rfl, rfl, rfl, rfl, rfl, rfl, rfl, rfl, trivial⟩, ?_⟩)
                       refine stepV (i := 43) rfl hF (fun w hS => Y.pick_t hF rfl hbv_19 rfl) rfl fun a hF => ?_
                       refine stepV (i := 44) rfl hF (fun w hS => Y.move hF rfl) rfl fun a hF => ?_
                       refine stepV_off (i := 45) rfl hF rfl rfl hbv_20 rfl fun a hF => ?_
                       refine stepV_off (i := 46) rfl hF rfl rfl hbv_20 rfl fun a hF => ?_
                       refine stepV_off (i := 47) rfl hF rfl rfl hbv_20 rfl fun a hF => ?_
                       refine stepV_off (i := 48) rfl hF rfl rfl hbv_20 rfl fun a hF => ?_
                       refine stepV_off (i := 49) rfl hF rfl rfl hbv_20 rfl fun a hF => ?_
                       refine stepV_off (i := 50) rfl hF rfl rfl hbv_20 rfl fun a hF => ?_
                       refine stepV_off (i := 51) rfl hF rfl rfl hbv_20 rfl fun a hF => ?_
                       refine stepV_off (i := 52) rfl hF rfl rfl hbv_20 rfl fun a hF => ?_
                       refine stepV_off (i := 53) rfl hF rfl rfl hbv_20 rfl fun a hF => ?_
                       refine stepV_off (i := 54) rfl hF rfl rfl hbv_20 rfl fun a hF => ?_
                       refine stepV_off (i := 55) rfl hF rfl rfl hbv_20 rfl fun a hF => ?_
                       refine oneV (i := 56) rfl ?_ trivial
                       refine guard_off hF rfl rfl hbv_20 rfl fun a hF => nil (then_n ⟨hS.weak ⟨rfl, rfl, rfl, rfl, rfl, rfl, rfl, rfl, rfl, rfl, trivial⟩, ?_⟩)
                       refine oneV (i := 57) rfl ?_ trivial
                       refine guard_off hF rfl rfl hbv_20 rfl fun a hF => nil (then_n ⟨hS.weak ⟨rfl, rfl, rfl, rfl, rfl, rfl, rfl, rfl, rfl, rfl, trivial⟩, ?_⟩)
                       refine stepV (i := 58) rfl hF (fun w hS => Y.pick_f hF rfl hbv_20 rfl) rfl fun a hF => ?_
                       refine stepV (i := 59) rfl hF (fun w hS => Y.move hF rfl) rfl fun a hF => ?_
                       refine stepV_off (i := 60) rfl hF rfl rfl rfl rfl fun a hF => ?_
                       refine stepV_off (i := 61) rfl hF rfl rfl rfl rfl fun a hF => ?_
                       refine stepV_off (i := 62) rfl hF rfl rfl rfl rfl fun a hF => ?_
                       refine stepV_off (i := 63) rfl hF rfl rfl rfl rfl fun a hF => ?_
                       refine stepV_offu (i := 64) rfl hF rfl rfl rfl fun a hF => ?_
                       refine oneV (i := 65) rfl ?_ trivial
                       refine guard_offu hF rfl rfl rfl fun a hF => nil (then_n ⟨hS.weak ⟨rfl, rfl, rfl, rfl, rfl, rfl, rfl, rfl, rfl, rfl, trivial⟩, ?_⟩)
                       refine stepV_offu (i := 66) rfl hF rfl rfl rfl fun a hF => ?_
                       refine stepV_off (i := 67) rfl hF rfl rfl rfl rfl fun a hF => ?_
                       refine stepV (i := 68) rfl hF (fun w hS => Y.pick_f hF rfl rfl rfl) rfl fun a hF => ?_
                       exact toTailV ⟨hF.weak ⟨rfl, rfl, trivial⟩, hS.weak ⟨rfl, rfl, rfl, rfl, rfl, rfl, rfl, rfl, rfl, rfl, trivial⟩⟩
                   ·as_aux_lemma =>
                     skip
                     replace ht_15 := cond_f ht_15 hbv_19
                     obtain rfl := some_inj ht_15
                     replace ht_16 := cond_f ht_16 rfl
                     obtain rfl := some_inj ht_16
                     replace ht_18 := cond_f ht_18 rfl
                     obtain rfl := some_inj ht_18
                     refine stepV (i := 0) rfl hF (fun w hS => Y.move hF rfl) rfl fun a hF => ?_
                     refine stepV (i := 1) rfl hF (fun w hS => Y.eql hF rfl rfl) rfl fun a hF => ?_
                     refine stepV (i := 2) rfl hF (fun w hS => Y.move hF rfl) rfl fun a hF => ?_
                     refine stepV_on (i := 3) rfl hF rfl rfl hbv_14 (fun w hS => Y.move hF rfl) rfl fun a hF => ?_
                     refine stepV_on (i := 4) rfl hF rfl rfl hbv_14 (fun w hS => Y.eql hF rfl rfl) rfl fun a hF => ?_
                     refine stepV (i := 5) rfl hF (fun w hS => Y.pick_t hF rfl hbv_14 rfl) rfl fun a hF => ?_
                     refine stepV (i := 6) rfl hF (fun w hS => Y.move hF rfl) rfl fun a hF => ?_
                     refine stepV_on (i := 7) rfl hF rfl rfl hbv_15 (fun w hS => Y.move hF rfl) rfl fun a hF => ?_
                     refine stepV_on (i := 8) rfl hF rfl rfl hbv_15 (fun w hS => Y.eql hF rfl rfl) rfl fun a hF => ?_
                     refine stepV (i := 9) rfl hF (fun w hS => Y.pick_t hF rfl hbv_15 rfl) rfl fun a hF => ?_
                     refine stepV (i := 10) rfl hF (fun w hS => Y.move hF rfl) rfl fun a hF => ?_
                     refine stepV_on (i := 11) rfl hF rfl rfl hbv_16 (fun w hS => Y.move hF rfl) rfl fun a hF => ?_
                     refine stepV_on (i := 12) rfl hF rfl rfl hbv_16 (fun w hS => Y.eql hF rfl rfl) rfl fun a hF => ?_
                     refine stepV (i := 13) rfl hF (fun w hS => Y.pick_t hF rfl hbv_16 rfl) rfl fun a hF => ?_
                     refine stepV (i := 14) rfl hF (fun w hS => Y.move hF rfl) rfl fun a hF => ?_
                     refine stepV_on (i := 15) rfl hF rfl rfl hbv_17 (fun w hS => Y.move hF rfl) rfl fun a hF => ?_
                     refine stepV_on (i := 16) rfl hF rfl rfl hbv_17 (fun w hS => Y.eql hF rfl rfl) rfl fun a hF => ?_
                     refine stepV (i := 17) rfl hF (fun w hS => Y.pick_t hF rfl hbv_17 rfl) rfl fun a hF => ?_
                     refine stepV (i := 18) rfl hF (fun w hS => Y.move hF rfl) rfl fun a hF => ?_
                     refine stepV_on (i := 19) rfl hF rfl rfl hbv_18 (fun w hS => Y.loadNL 7 sz_34 hF rfl hS rfl rfl rfl) rfl fun a hF => ?_
                     refine stepV_on (i := 20) rfl hF rfl rfl hbv_18 (fun w hS => Y.fieldAddr fo_34_1 hF rfl) rfl fun a hF => ?_
                     refine stepV_on (i := 21) rfl hF rfl rfl hbv_18 (fun w hS => Y.load1L 6 sz_3 hF rfl hS rfl rfl) rfl fun a hF => ?_
                     refine stepV_on (i := 22) rfl hF rfl rfl hbv_18 (fun w hS => Y.neg hF rfl) rfl fun a hF => ?_
                     refine stepV_on (i := 23) rfl hF rfl rfl hbv_18 (fun w hS => Y.fieldAddr fo_34_0 hF rfl) rfl fun a hF => ?_
                     refine stepV_on (i := 24) rfl hF rfl rfl hbv_18 (fun w hS => Y.load1L 6 sz_3 hF rfl hS rfl rfl) rfl fun a hF => ?_
                     refine stepV_on (i := 25) rfl hF rfl rfl hbv_18 (fun w hS => Y.neg hF rfl) rfl fun a hF => ?_
                     refine oneV (i := 26) rfl ?_ trivial
                     refine guard_on hF rfl rfl hbv_18 ?_
                     refine O.callP (us := [.int .i64 (wr (0 - rv_21.1.High)), .int .i64 (wr (0 - rv_21.1.Low))]) ca_37 hF hS (remontoirref00_To_ok hS.stab (wr (0 - rv_21.1.High)) (wr (0 - rv_21.1.Low)) rv_26 hx_26) rfl rfl fun a w hF hS => ?_
                     refine nil (then_n ⟨hS.weak ⟨rfl, rfl, rfl, rfl, rfl, rfl, rfl, rfl, rfl, rfl, trivial⟩, ?_⟩)
                     refine stepV_on (i := 27) rfl hF rfl rfl hbv_18 (fun w hS => Y.eqst (fun w => eqT_34.equal (by decide) (l := [rv_22.1.Low, rv_22.1.High]) (m := [rv_26.Low, rv_26.High]) rfl rfl) (fun w => run_eqGuard_agg _ _ _ _ _ _ _ eg_34) hF rfl rfl) rfl fun a hF => ?_
                     refine stepV (i := 28) rfl hF (fun w hS => Y.pick_t hF rfl hbv_18 rfl) rfl fun a hF => ?_
                     refine stepV (i := 29) rfl hF (fun w hS => Y.move hF rfl) rfl fun a hF => ?_
                     refine stepV_off (i := 30) rfl hF rfl rfl hbv_19 rfl fun a hF => ?_
                     refine stepV_off (i := 31) rfl hF rfl rfl hbv_19 rfl fun a hF => ?_
                     refine stepV_off (i := 32) rfl hF rfl rfl hbv_19 rfl fun a hF => ?_
                     refine stepV_off (i := 33) rfl hF rfl rfl hbv_19 rfl fun a hF => ?_
                     refine stepV_off (i := 34) rfl hF rfl rfl hbv_19 rfl fun a hF => ?_
                     refine stepV_off (i := 35) rfl hF rfl rfl hbv_19 rfl fun a hF => ?_
                     refine stepV_off (i := 36) rfl hF rfl rfl hbv_19 rfl fun a hF => ?_
                     refine stepV_off (i := 37) rfl hF rfl rfl hbv_19 rfl fun a hF => ?_
                     refine stepV_off (i := 38) rfl hF rfl rfl hbv_19 rfl fun a hF => ?_
                     refine stepV_off (i := 39) rfl hF rfl rfl hbv_19 rfl fun a hF => ?_
                     refine stepV_off (i := 40) rfl hF rfl rfl hbv_19 rfl fun a hF => ?_
                     refine oneV (i := 41) rfl ?_ trivial
                     refine guard_off hF rfl rfl hbv_19 rfl fun a hF => nil (then_n ⟨hS.weak ⟨rfl, rfl, rfl, rfl, rfl, rfl, rfl, rfl, rfl, rfl, trivial⟩, ?_⟩)
                     refine oneV (i := 42) rfl ?_ trivial
                     refine guard_off hF rfl rfl hbv_19 rfl fun a hF => nil (then_n ⟨hS.weak ⟨rfl, rfl, rfl, rfl, rfl, rfl, rfl, rfl, rfl, rfl, trivial⟩, ?_⟩)
                     refine stepV (i := 43) rfl hF (fun w hS => Y.pick_f hF rfl hbv_19 rfl) rfl fun a hF => ?_
                     refine stepV (i := 44) rfl hF (fun w hS => Y.move hF rfl) rfl fun a hF => ?_
                     refine stepV_off (i := 45) rfl hF rfl rfl rfl rfl fun a hF => ?_
                     refine stepV_off (i := 46) rfl hF rfl rfl rfl rfl fun a hF => ?_
                     refine stepV_off (i := 47) rfl hF rfl rfl rfl rfl fun a hF => ?_
                     refine stepV_off (i := 48) rfl hF rfl rfl rfl rfl fun a hF => ?_
                     refine stepV_off (i := 49) rfl hF rfl rfl rfl rfl fun a hF => ?_
                     refine stepV_off (i := 50) rfl hF rfl rfl rfl rfl fun a hF => ?_
                     refine stepV_off (i := 51) rfl hF rfl rfl rfl rfl fun a hF => ?_
                     refine stepV_off (i := 52) rfl hF rfl rfl rfl rfl fun a hF => ?_
                     refine stepV_off (i := 53) rfl hF rfl rfl rfl rfl fun a hF => ?_
                     refine stepV_off (i := 54) rfl hF rfl rfl rfl rfl fun a hF => ?_
                     refine stepV_off (i := 55) rfl hF rfl rfl rfl rfl fun a hF => ?_
                     refine oneV (i := 56) rfl ?_ trivial
                     refine guard_off hF rfl rfl rfl rfl fun a hF => nil (then_n ⟨hS.weak ⟨rfl, rfl, rfl, rfl, rfl, rfl, rfl, rfl, rfl, rfl, trivial⟩, ?_⟩)
                     refine oneV (i := 57) rfl ?_ trivial
                     refine guard_off hF rfl rfl rfl rfl fun a hF => nil (then_n ⟨hS.weak ⟨rfl, rfl, rfl, rfl, rfl, rfl, rfl, rfl, rfl, rfl, trivial⟩, ?_⟩)
                     refine stepV (i := 58) rfl hF (fun w hS => Y.pick_f hF rfl rfl rfl) rfl fun a hF => ?_
                     refine stepV (i := 59) rfl hF (fun w hS => Y.move hF rfl) rfl fun a hF => ?_
                     refine stepV_off (i := 60) rfl hF rfl rfl rfl rfl fun a hF => ?_
                     refine stepV_off (i := 61) rfl hF rfl rfl rfl rfl fun a hF => ?_
                     refine stepV_off (i := 62) rfl hF rfl rfl rfl rfl fun a hF => ?_
                     refine stepV_off (i := 63) rfl hF rfl rfl rfl rfl fun a hF => ?_
                     refine stepV_offu (i := 64) rfl hF rfl rfl rfl fun a hF => ?_
                     refine oneV (i := 65) rfl ?_ trivial
                     refine guard_offu hF rfl rfl rfl fun a hF => nil (then_n ⟨hS.weak ⟨rfl, rfl, rfl, rfl, rfl, rfl, rfl, rfl, rfl, rfl, trivial⟩, ?_⟩)
                     refine stepV_offu (i := 66) rfl hF rfl rfl rfl fun a hF => ?_
                     refine stepV_off (i := 67) rfl hF rfl rfl rfl rfl fun a hF => ?_
                     refine stepV (i := 68) rfl hF (fun w hS => Y.pick_f hF rfl rfl rfl) rfl fun a hF => ?_
                     exact toTailV ⟨hF.weak ⟨rfl, rfl, trivial⟩, hS.weak ⟨rfl, rfl, rfl, rfl, rfl, rfl, rfl, rfl, rfl, rfl, trivial⟩⟩
                 ·as_aux_lemma =>
                   skip
                   replace ht_14 := cond_f ht_14 hbv_18
                   obtain rfl := some_inj ht_14
                   replace ht_15 := cond_f ht_15 rfl
                   obtain rfl := some_inj ht_15
                   replace ht_16 := cond_f ht_16 rfl
                   obtain rfl := some_inj ht_16
                   replace ht_18 := cond_f ht_18 rfl
                   obtain rfl := some_inj ht_18
                   refine stepV (i := 0) rfl hF (fun w hS => Y.move hF rfl) rfl fun a hF => ?_
                   refine stepV (i := 1) rfl hF (fun w hS => Y.eql hF rfl rfl) rfl fun a hF => ?_
                   refine stepV (i := 2) rfl hF (fun w hS => Y.move hF rfl) rfl fun a hF => ?_
                   refine stepV_on (i := 3) rfl hF rfl rfl hbv_14 (fun w hS => Y.move hF rfl) rfl fun a hF => ?_
                   refine stepV_on (i := 4) rfl hF rfl rfl hbv_14 (fun w hS => Y.eql hF rfl rfl) rfl fun a hF => ?_
                   refine stepV (i := 5) rfl hF (fun w hS => Y.pick_t hF rfl hbv_14 rfl) rfl fun a hF => ?_
                   refine stepV (i := 6) rfl hF (fun w hS => Y.move hF rfl) rfl fun a hF => ?_
                   refine stepV_on (i := 7) rfl hF rfl rfl hbv_15 (fun w hS => Y.move hF rfl) rfl fun a hF => ?_
                   refine stepV_on (i := 8) rfl hF rfl rfl hbv_15 (fun w hS => Y.eql hF rfl rfl) rfl fun a hF => ?_
                   refine stepV (i := 9) rfl hF (fun w hS => Y.pick_t hF rfl hbv_15 rfl) rfl fun a hF => ?_
                   refine stepV (i := 10) rfl hF (fun w hS => Y.move hF rfl) rfl fun a hF => ?_
                   refine stepV_on (i := 11) rfl hF rfl rfl hbv_16 (fun w hS => Y.move hF rfl) rfl fun a hF => ?_
                   refine stepV_on (i := 12) rfl hF rfl rfl hbv_16 (fun w hS => Y.eql hF rfl rfl) rfl fun a hF => ?_
                   refine stepV (i := 13) rfl hF (fun w hS => Y.pick_t hF rfl hbv_16 rfl) rfl fun a hF => ?_
                   refine stepV (i := 14) rfl hF (fun w hS => Y.move hF rfl) rfl fun a hF => ?_
                   refine stepV_on (i := 15) rfl hF rfl rfl hbv_17 (fun w hS => Y.move hF rfl) rfl fun a hF => ?_
                   refine stepV_on (i := 16) rfl hF rfl rfl hbv_17 (fun w hS => Y.eql hF rfl rfl) rfl fun a hF => ?_
                   refine stepV (i := 17) rfl hF (fun w hS => Y.pick_t hF rfl hbv_17 rfl) rfl fun a hF => ?_
                   refine stepV (i := 18) rfl hF (fun w hS => Y.move hF rfl) rfl fun a hF => ?_
                   refine stepV_off (i := 19) rfl hF rfl rfl hbv_18 rfl fun a hF => ?_
                   refine stepV_off (i := 20) rfl hF rfl rfl hbv_18 rfl fun a hF => ?_
                   refine stepV_off (i := 21) rfl hF rfl rfl hbv_18 rfl fun a hF => ?_
                   refine stepV_off (i := 22) rfl hF rfl rfl hbv_18 rfl fun a hF => ?_
                   refine stepV_off (i := 23) rfl hF rfl rfl hbv_18 rfl fun a hF => ?_
                   refine stepV_off (i := 24) rfl hF rfl rfl hbv_18 rfl fun a hF => ?_
                   refine stepV_off (i := 25) rfl hF rfl rfl hbv_18 rfl fun a hF => ?_
                   refine oneV (i := 26) rfl ?_ trivial
                   refine guard_off hF rfl rfl hbv_18 rfl fun a hF => nil (then_n ⟨hS.weak ⟨rfl, rfl, rfl, rfl, rfl, rfl, rfl, rfl, rfl, rfl, trivial⟩, ?_⟩)
                   refine stepV_off (i := 27) rfl hF rfl rfl hbv_18 rfl fun a hF => ?_
                   refine stepV (i := 28) rfl hF (fun w hS => Y.pick_f hF rfl hbv_18 rfl) rfl fun a hF => ?_
                   refine stepV (i := 29) rfl hF (fun w hS => Y.move hF rfl) rfl fun a hF => ?_
                   refine stepV_off (i := 30) rfl hF rfl rfl rfl rfl fun a hF => ?_
                   refine stepV_off (i := 31) rfl hF rfl rfl rfl rfl fun a hF => ?_
                   refine stepV_off (i := 32) rfl hF rfl rfl rfl rfl fun a hF => ?_
                   refine stepV_off (i := 33) rfl hF rfl rfl rfl rfl fun a hF => ?_
                   refine stepV_off (i := 34) rfl hF rfl rfl rfl rfl fun a hF => ?_
                   refine stepV_off (i := 35) rfl hF rfl rfl rfl rfl fun a hF => ?_
                   refine stepV_off (i := 36) rfl hF rfl rfl rfl rfl fun a hF => ?_
                   refine stepV_off (i := 37) rfl hF rfl rfl rfl rfl fun a hF => ?_
                   refine stepV_off (i := 38) rfl hF rfl rfl rfl rfl fun a hF => ?_
                   refine stepV_off (i := 39) rfl hF rfl rfl rfl rfl fun a hF => ?_
                   refine stepV_off (i := 40) rfl hF rfl rfl rfl rfl fun a hF => ?_
                   refine oneV (i := 41) rfl ?_ trivial
                   refine guard_off hF rfl rfl rfl rfl fun a hF => nil (then_n ⟨hS.weak ⟨rfl, rfl, rfl, rfl, rfl, rfl, rfl, rfl, rfl, rfl, trivial⟩, ?_⟩)
                   refine oneV (i := 42) rfl ?_ trivial
                   refine guard_off hF rfl rfl rfl rfl fun a hF => nil (then_n ⟨hS.weak ⟨rfl, rfl, rfl, rfl, rfl, rfl, rfl, rfl, rfl, rfl, trivial⟩, ?_⟩)
                   refine stepV (i := 43) rfl hF (fun w hS => Y.pick_f hF rfl rfl rfl) rfl fun a hF => ?_
                   refine stepV (i := 44) rfl hF (fun w hS => Y.move hF rfl) rfl fun a hF => ?_
                   refine stepV_off (i := 45) rfl hF rfl rfl rfl rfl fun a hF => ?_
                   refine stepV_off (i := 46) rfl hF rfl rfl rfl rfl fun a hF => ?_
                   refine stepV_off (i := 47) rfl hF rfl rfl rfl rfl fun a hF => ?_
                   refine stepV_off (i := 48) rfl hF rfl rfl rfl rfl fun a hF => ?_
                   refine stepV_off (i := 49) rfl hF rfl rfl rfl rfl fun a hF => ?_
                   refine stepV_off (i := 50) rfl hF rfl rfl rfl rfl fun a hF => ?_
                   refine stepV_off (i := 51) rfl hF rfl rfl rfl rfl fun a hF => ?_
                   refine stepV_off (i := 52) rfl hF rfl rfl rfl rfl fun a hF => ?_
                   refine stepV_off (i := 53) rfl hF rfl rfl rfl rfl fun a hF => ?_
                   refine stepV_off (i := 54) rfl hF rfl rfl rfl rfl fun a hF => ?_
                   refine stepV_off (i := 55) rfl hF rfl rfl rfl rfl fun a hF => ?_
                   refine oneV (i := 56) rfl ?_ trivial
                   refine guard_off hF rfl rfl rfl rfl fun a hF => nil (then_n ⟨hS.weak ⟨rfl, rfl, rfl, rfl, rfl, rfl, rfl, rfl, rfl, rfl, trivial⟩, ?_⟩)
                   refine oneV (i := 57) rfl ?_ trivial
                   refine guard_off hF rfl rfl rfl rfl fun a hF => nil (then_n ⟨hS.weak ⟨rfl, rfl, rfl, rfl, rfl, rfl, rfl, rfl, rfl, rfl, trivial⟩, ?_⟩)
                   refine stepV (i := 58) rfl hF (fun w hS => Y.pick_f hF rfl rfl rfl) rfl fun a hF => ?_
                   refine stepV (i := 59) rfl hF (fun w hS => Y.move hF rfl) rfl fun a hF => ?_
                   refine stepV_off (i := 60) rfl hF rfl rfl rfl rfl fun a hF => ?_
                   refine stepV_off (i := 61) rfl hF rfl rfl rfl rfl fun a hF => ?_
                   refine stepV_off (i := 62) rfl hF rfl rfl rfl rfl fun a hF => ?_
                   refine stepV_off (i := 63) rfl hF rfl rfl rfl rfl fun a hF => ?_
                   refine stepV_offu (i := 64) rfl hF rfl rfl rfl fun a hF => ?_
                   refine oneV (i := 65) rfl ?_ trivial
                   refine guard_offu hF rfl rfl rfl fun a hF => nil (then_n ⟨hS.weak ⟨rfl, rfl, rfl, rfl, rfl, rfl, rfl, rfl, rfl, rfl, trivial⟩, ?_⟩)
                   refine stepV_offu (i := 66) rfl hF rfl rfl rfl fun a hF => ?_
                   refine stepV_off (i := 67) rfl hF rfl rfl rfl rfl fun a hF => ?_
                   refine stepV (i := 68) rfl hF (fun w hS => Y.pick_f hF rfl rfl rfl) rfl fun a hF => ?_
                   exact toTailV ⟨hF.weak ⟨rfl, rfl, trivial⟩, hS.weak ⟨rfl, rfl, rfl, rfl, rfl, rfl, rfl, rfl, rfl, rfl, trivial⟩⟩
               ·as_aux_lemma =>
                 skip
                 replace ht_13 := cond_f ht_13 hbv_17
                 obtain rfl := some_inj ht_13
                 replace ht_14 := cond_f ht_14 rfl
                 obtain rfl := some_inj ht_14
                 replace ht_15 := cond_f ht_15 rfl
                 obtain rfl := some_inj ht_15
                 replace ht_16 := cond_f ht_16 rfl
                 obtain rfl := some_inj ht_16
                 replace ht_18 := cond_f ht_18 rfl
                 obtain rfl := some_inj ht_18
                 refine stepV (i := 0) rfl hF (fun w hS => Y.move hF rfl) rfl fun a hF => ?_
                 refine stepV (i := 1) rfl hF (fun w hS => Y.eql hF rfl rfl) rfl fun a hF => ?_
                 refine stepV (i := 2) rfl hF (fun w hS => Y.move hF rfl) rfl fun a hF => ?_
                 refine stepV_on (i := 3) rfl hF rfl rfl hbv_14 (fun w hS => Y.move hF rfl) rfl fun a hF => ?_
                 refine stepV_on (i := 4) rfl hF rfl rfl hbv_14 (fun w hS => Y.eql hF rfl rfl) rfl fun a hF => ?_
                 refine stepV (i := 5) rfl hF (fun w hS => Y.pick_t hF rfl hbv_14 rfl) rfl fun a hF => ?_
                 refine stepV (i := 6) rfl hF (fun w hS => Y.move hF rfl) rfl fun a hF => ?_
                 refine stepV_on (i := 7) rfl hF rfl rfl hbv_15 (fun w hS => Y.move hF rfl) rfl fun a hF => ?_
                 refine stepV_on (i := 8) rfl hF rfl rfl hbv_15 (fun w hS => Y.eql hF rfl rfl) rfl fun a hF => ?_
                 refine stepV (i := 9) rfl hF (fun w hS => Y.pick_t hF rfl hbv_15 rfl) rfl fun a hF => ?_
                 refine stepV (i := 10) rfl hF (fun w hS => Y.move hF rfl) rfl fun a hF => ?_
                 refine stepV_on (i := 11) rfl hF rfl rfl hbv_16 (fun w hS => Y.move hF rfl) rfl fun a hF => ?_
                 refine stepV_on (i := 12) rfl hF rfl rfl hbv_16 (fun w hS => Y.eql hF rfl rfl) rfl fun a hF => ?_
                 refine stepV (i := 13) rfl hF (fun w hS => Y.pick_t hF rfl hbv_16 rfl) rfl fun a hF => ?_
                 refine stepV (i := 14) rfl hF (fun w hS => Y.move hF rfl) rfl fun a hF => ?_
                 refine stepV_off (i := 15) rfl hF rfl rfl hbv_17 rfl fun a hF => ?_
                 refine stepV_off (i := 16) rfl hF rfl rfl hbv_17 rfl fun a hF => ?_
                 refine stepV (i := 17) rfl hF (fun w hS => Y.pick_f hF rfl hbv_17 rfl) rfl fun a hF => ?_
                 refine stepV (i := 18) rfl hF (fun w hS => Y.move hF rfl) rfl fun a hF => ?_
                 refine stepV_off (i := 19) rfl hF rfl rfl rfl rfl fun a hF => ?_
                 refine stepV_off (i := 20) rfl hF rfl rfl rfl rfl fun a hF => ?_
                 refine stepV_off (i := 21) rfl hF rfl rfl rfl rfl fun a hF => ?_
                 refine stepV_off (i := 22) rfl hF rfl rfl rfl rfl fun a hF => ?_
                 refine stepV_off (i := 23) rfl hF rfl rfl rfl rfl fun a hF => ?_
                 refine stepV_off (i := 24) rfl hF rfl rfl rfl rfl fun a hF => ?_
                 refine stepV_off (i := 25) rfl hF rfl rfl rfl rfl fun a hF => ?_
                 refine oneV (i := 26) rfl ?_ trivial
                 refine guard_off hF rfl rfl rfl rfl fun a hF => nil (then_n ⟨hS.weak ⟨rfl, rfl, rfl, rfl, rfl, rfl, rfl, rfl, rfl, rfl, trivial⟩, ?_⟩)
                 refine stepV_off (i := 27) rfl hF rfl rfl rfl rfl fun a hF => ?_
                 refine stepV (i := 28) rfl hF (fun w hS => Y.pick_f hF rfl rfl rfl) rfl fun a hF => ?_
                 refine stepV (i := 29) rfl hF (fun w hS => Y.move hF rfl) rfl fun a hF => ?_
                 refine stepV_off (i := 30) rfl hF rfl rfl rfl rfl fun a hF => ?_
                 refine stepV_off (i := 31) rfl hF rfl rfl rfl rfl fun a hF => ?_
                 refine stepV_off (i := 32) rfl hF rfl rfl rfl rfl fun a hF => ?_
                 refine stepV_off (i := 33) rfl hF rfl rfl rfl rfl fun a hF => ?_
                 refine stepV_off (i := 34) rfl hF rfl rfl rfl rfl fun a hF => ?_
                 refine stepV_off (i := 35) rfl hF rfl rfl rfl rfl fun a hF => ?_
                 refine stepV_off (i := 36) rfl hF rfl rfl rfl rfl fun a hF => ?_
                 refine stepV_off (i := 37) rfl hF rfl rfl rfl rfl fun a hF => ?_
                 refine stepV_off (i := 38) rfl hF rfl rfl rfl rfl fun a hF => ?_
                 refine stepV_off (i := 39) rfl hF rfl rfl rfl rfl fun a hF => ?_
                 refine stepV_off (i := 40) rfl hF rfl rfl rfl rfl fun a hF => ?_
                 refine oneV (i := 41) rfl ?_ trivial
                 refine guard_off hF rfl rfl rfl rfl fun a hF => nil (then_n ⟨hS.weak ⟨rfl, rfl, rfl, rfl, rfl, rfl, rfl, rfl, rfl, rfl, trivial⟩, ?_⟩)
                 refine oneV (i := 42) rfl ?_ trivial
                 refine guard_off hF rfl rfl rfl rfl fun a hF => nil (then_n ⟨hS.weak ⟨rfl, rfl, rfl, rfl, rfl, rfl, rfl, rfl, rfl, rfl, trivial⟩, ?_⟩)
                 refine stepV (i := 43) rfl hF (fun w hS => Y.pick_f hF rfl rfl rfl) rfl fun a hF => ?_
                 refine stepV (i := 44) rfl hF (fun w hS => Y.move hF rfl) rfl fun a hF => ?_
                 refine stepV_off (i := 45) rfl hF rfl rfl rfl rfl fun a hF => ?_
                 refine stepV_off (i := 46) rfl hF rfl rfl rfl rfl fun a hF => ?_
                 refine stepV_off (i := 47) rfl hF rfl rfl rfl rfl fun a hF => ?_
                 refine stepV_off (i := 48) rfl hF rfl rfl rfl rfl fun a hF => ?_
                 refine stepV_off (i := 49) rfl hF rfl rfl rfl rfl fun a hF => ?_
                 refine stepV_off (i := 50) rfl hF rfl rfl rfl rfl fun a hF => ?_
                 refine stepV_off (i := 51) rfl hF rfl rfl rfl rfl fun a hF => ?_
                 refine stepV_off (i := 52) rfl hF rfl rfl rfl rfl fun a hF => ?_
                 refine stepV_off (i := 53) rfl hF rfl rfl rfl rfl fun a hF => ?_
                 refine stepV_off (i := 54) rfl hF rfl rfl rfl rfl fun a hF => ?_
                 refine stepV_off (i := 55) rfl hF rfl rfl rfl rfl fun a hF => ?_
                 refine oneV (i := 56) rfl ?_ trivial
                 refine guard_off hF rfl rfl rfl rfl fun a hF => nil (then_n ⟨hS.weak ⟨rfl, rfl, rfl, rfl, rfl, rfl, rfl, rfl, rfl, rfl, trivial⟩, ?_⟩)
                 refine oneV (i := 57) rfl ?_ trivial
                 refine guard_off hF rfl rfl rfl rfl fun a hF => nil (then_n ⟨hS.weak ⟨rfl, rfl, rfl, rfl, rfl, rfl, rfl, rfl, rfl, rfl, trivial⟩, ?_⟩)
                 refine stepV (i := 58) rfl hF (fun w hS => Y.pick_f hF rfl rfl rfl) rfl fun a hF => ?_
                 refine stepV (i := 59) rfl hF (fun w hS => Y.move hF rfl) rfl fun a hF => ?_
                 refine stepV_off (i := 60) rfl hF rfl rfl rfl rfl fun a hF => ?_
                 refine stepV_off (i := 61) rfl hF rfl rfl rfl rfl fun a hF => ?_
                 refine stepV_off (i := 62) rfl hF rfl rfl rfl rfl fun a hF => ?_
                 refine stepV_off (i := 63) rfl hF rfl rfl rfl rfl fun a hF => ?_
                 refine stepV_offu (i := 64) rfl hF rfl rfl rfl fun a hF => ?_
                 refine oneV (i := 65) rfl ?_ trivial
                 refine guard_offu hF rfl rfl rfl fun a hF => nil (then_n ⟨hS.weak ⟨rfl, rfl, rfl, rfl, rfl, rfl, rfl, rfl, rfl, rfl, trivial⟩, ?_⟩)
                 refine stepV_offu (i := 66) rfl hF rfl rfl rfl fun a hF => ?_
                 refine stepV_off (i := 67) rfl hF rfl rfl rfl rfl fun a hF => ?_
                 refine stepV (i := 68) rfl hF (fun w hS => Y.pick_f hF rfl rfl rfl) rfl fun a hF => ?_
                 exact toTailV ⟨hF.weak ⟨rfl, rfl, trivial⟩, hS.weak ⟨rfl, rfl, rfl, rfl, rfl, rfl, rfl, rfl, rfl, rfl, trivial⟩⟩
             ·as_aux_lemma =>
               skip
               replace ht_12 := cond_f ht_12 hbv_16
               obtain rfl := some_inj ht_12
               replace ht_13 := cond_f ht_13 rfl
               obtain rfl := some_inj ht_13
               replace ht_14 := cond_f ht_14 rfl
               obtain rfl := some_inj ht_14
               replace ht_15 := cond_f ht_15 rfl
               obtain rfl := some_inj ht_15
               replace ht_16 := cond_f ht_16 rfl
               obtain rfl := some_inj ht_16
               replace ht_18 := cond_f ht_18 rfl
               obtain rfl := some_inj ht_18
               refine stepV (i := 0) rfl hF (fun w hS => Y.move hF rfl) rfl fun a hF => ?_
               refine stepV (i := 1) rfl hF (fun w hS => Y.eql hF rfl rfl) rfl fun a hF => ?_
               refine stepV (i := 2) rfl hF (fun w hS => Y.move hF rfl) rfl fun a hF => ?_
               refine stepV_on (i := 3) rfl hF rfl rfl hbv_14 (fun w hS => Y.move hF rfl) rfl fun a hF => ?_
               refine stepV_on (i := 4) rfl hF rfl rfl hbv_14 (fun w hS => Y.eql hF rfl rfl) rfl fun a hF => ?_
               refine stepV (i := 5) rfl hF (fun w hS => Y.pick_t hF rfl hbv_14 rfl) rfl fun a hF => ?_
               refine stepV (i := 6) rfl hF (fun w hS => Y.move hF rfl) rfl fun a hF => ?_
               refine stepV_on (i := 7) rfl hF rfl rfl hbv_15 (fun w hS => Y.move hF rfl) rfl fun a hF => ?_
               refine stepV_on (i := 8) rfl hF rfl rfl hbv_15 (fun w hS => Y.eql hF rfl rfl) rfl fun a hF => ?_
               refine stepV (i := 9) rfl hF (fun w hS => Y.pick_t hF rfl hbv_15 rfl) rfl fun a hF => ?_
               refine stepV (i := 10) rfl hF (fun w hS => Y.move hF rfl) rfl fun a hF => ?_
               refine stepV_off (i := 11) rfl hF rfl rfl hbv_16 rfl fun a hF => ?_
               refine stepV_off (i := 12) rfl hF rfl rfl hbv_16 rfl fun a hF => ?_
               refine stepV (i := 13) rfl hF (fun w hS => Y.pick_f hF rfl hbv_16 rfl) rfl fun a hF => ?_
               refine stepV (i := 14) rfl hF (fun w hS => Y.move hF rfl) rfl fun a hF => ?_
               refine stepV_off (i := 15) rfl hF rfl rfl rfl rfl fun a hF => ?_
               refine stepV_off (i := 16) rfl hF rfl rfl rfl rfl fun a hF => ?_
               refine stepV (i := 17) rfl hF (fun w hS => Y.pick_f hF rfl rfl rfl) rfl fun a hF => ?_
               refine stepV (i := 18) rfl hF (fun w hS => Y.move hF rfl) rfl fun a hF => ?_
               refine stepV_off (i := 19) rfl hF rfl rfl rfl rfl fun a hF => ?_
               refine stepV_off (i := 20) rfl hF rfl rfl rfl rfl fun a hF => ?_
               refine stepV_off (i := 21) rfl hF rfl rfl rfl rfl fun a hF => ?_
               refine stepV_off (i := 22) rfl hF rfl rfl rfl rfl fun a hF => ?_
               refine stepV_off (i := 23) rfl hF rfl rfl rfl rfl fun a hF => ?_
               refine stepV_off (i := 24) rfl hF rfl rfl rfl rfl fun a hF => ?_
               refine stepV_off (i := 25) rfl hF rfl rfl rfl rfl fun a hF => ?_
               refine oneV (i := 26) rfl ?_ trivial
               refine guard_off hF rfl rfl rfl rfl fun a hF => nil (then_n ⟨hS.weak ⟨rfl, rfl, rfl, rfl, rfl, rfl, rfl, rfl, rfl, rfl, trivial⟩, ?_⟩)
               refine stepV_off (i := 27) rfl hF rfl rfl rfl rfl fun a hF => ?_
               refine stepV (i := 28) rfl hF (fun w hS => Y.pick_f hF rfl rfl rfl) rfl fun a hF => ?_
               refine stepV (i := 29) rfl hF (fun w hS => Y.move hF rfl) rfl fun a hF => ?_
               refine stepV_off (i := 30) rfl hF rfl rfl rfl rfl fun a hF => ?_
               refine stepV_off (i := 31) rfl hF rfl rfl rfl rfl fun a hF => ?_
               refine stepV_off (i := 32) rfl hF rfl rfl rfl rfl fun a hF => ?_
               refine stepV_off (i := 33) rfl hF rfl rfl rfl rfl fun a hF => ?_
               refine stepV_off (i := 34) rfl hF rfl rfl rfl rfl fun a hF => ?_
               refine stepV_off (i := 35) rfl hF rfl rfl rfl rfl fun a hF => ?_
               refine stepV_off (i := 36) rfl hF rfl rfl rfl rfl fun a hF => ?_
               refine stepV_off (i := 37) rfl hF rfl rfl rfl rfl fun a hF => ?_
               refine stepV_off (i := 38) rfl hF rfl rfl rfl rfl fun a hF => ?_
               refine stepV_off (i := 39) rfl hF rfl rfl rfl rfl fun a hF => ?_
               refine stepV_off (i := 40) rfl hF rfl rfl rfl rfl fun a hF => ?_
               refine oneV (i := 41) rfl ?_ trivial
               refine guard_off hF rfl rfl rfl rfl fun a hF => nil (then_n ⟨hS.weak ⟨rfl, rfl, rfl, rfl, rfl, rfl, rfl, rfl, rfl, rfl, trivial⟩, ?_⟩)
               refine oneV (i := 42) rfl ?_ trivial
               refine guard_off hF rfl rfl rfl rfl fun a hF => nil (then_n ⟨hS.weak ⟨rfl, rfl, rfl, rfl, rfl, rfl, rfl, rfl, rfl, rfl, trivial⟩, ?_⟩)
               refine stepV (i := 43) rfl hF (fun w hS => Y.pick_f hF rfl rfl rfl) rfl fun a hF => ?_
               refine stepV (i := 44) rfl hF (fun w hS => Y.move hF rfl) rfl fun a hF => ?_
               refine stepV_off (i := 45) rfl hF rfl rfl rfl rfl fun a hF => ?_
               refine stepV_off (i := 46) rfl hF rfl rfl rfl rfl fun a hF => ?_
               refine stepV_off (i := 47) rfl hF rfl rfl rfl rfl fun a hF => ?_
               refine stepV_off (i := 48) rfl hF rfl rfl rfl rfl fun a hF => ?_
               refine stepV_off (i := 49) rfl hF rfl rfl rfl rfl fun a hF => ?_
               refine stepV_off (i := 50) rfl hF rfl rfl rfl rfl fun a hF => ?_
               refine stepV_off (i := 51) rfl hF rfl rfl rfl rfl fun a hF => ?_
               refine stepV_off (i := 52) rfl hF rfl rfl rfl rfl fun a hF => ?_
               refine stepV_off (i := 53) rfl hF rfl rfl rfl rfl fun a hF => ?_
               refine stepV_off (i := 54) rfl hF rfl rfl rfl rfl fun a hF => ?_
               refine stepV_off (i := 55) rfl hF rfl rfl rfl rfl fun a hF => ?_
               refine oneV (i := 56) rfl ?_ trivial
               refine guard_off hF rfl rfl rfl rfl fun a hF => nil (then_n ⟨hS.weak ⟨rfl, rfl, rfl, rfl, rfl, rfl, rfl, rfl, rfl, rfl, trivial⟩, ?_⟩)
               refine oneV (i := 57) rfl ?_ trivial
               refine guard_off hF rfl rfl rfl rfl fun a hF => nil (then_n ⟨hS.weak ⟨rfl, rfl, rfl, rfl, rfl, rfl, rfl, rfl, rfl, rfl, trivial⟩, ?_⟩)
               refine stepV (i := 58) rfl hF (fun w hS => Y.pick_f hF rfl rfl rfl) rfl fun a hF => ?_
               refine stepV (i := 59) rfl hF (fun w hS => Y.move hF rfl) rfl fun a hF => ?_
               refine stepV_off (i := 60) rfl hF rfl rfl rfl rfl fun a hF => ?_
               refine stepV_off (i := 61) rfl hF rfl rfl rfl rfl fun a hF => ?_
               refine stepV_off (i := 62) rfl hF rfl rfl rfl rfl fun a hF => ?_
               refine stepV_off (i := 63) rfl hF rfl rfl rfl rfl fun a hF => ?_
               refine stepV_offu (i := 64) rfl hF rfl rfl rfl fun a hF => ?_
               refine oneV (i := 65) rfl ?_ trivial
               refine guard_offu hF rfl rfl rfl fun a hF => nil (then_n ⟨hS.weak ⟨rfl, rfl, rfl, rfl, rfl, rfl, rfl, rfl, rfl, rfl, trivial⟩, ?_⟩)
               refine stepV_offu (i := 66) rfl hF rfl rfl rfl fun a hF => ?_
               refine stepV_off (i := 67) rfl hF rfl rfl rfl rfl fun a hF => ?_
               refine stepV (i := 68) rfl hF (fun w hS => Y.pick_f hF rfl rfl rfl) rfl fun a hF => ?_
               exact toTailV ⟨hF.weak ⟨rfl, rfl, trivial⟩, hS.weak ⟨rfl, rfl, rfl, rfl, rfl, rfl, rfl, rfl, rfl, rfl, trivial⟩⟩
           ·as_aux_lemma =>
             skip
             replace ht_11 := cond_f ht_11 hbv_15
             obtain rfl := some_inj ht_11
             replace ht_12 := cond_f ht_12 rfl
             obtain rfl := some_inj ht_12
             replace ht_13 := cond_f ht_13 rfl
             obtain rfl := some_inj ht_13
             replace ht_14 := cond_f ht_14 rfl
             obtain rfl := some_inj ht_14
             replace ht_15 := cond_f ht_15 rfl
             obtain rfl := some_inj ht_15
             replace ht_16 := cond_f ht_16 rfl
             obtain rfl := some_inj ht_16
             replace ht_18 := cond_f ht_18 rfl
             obtain rfl := some_inj ht_18
             refine stepV (i := 0) rfl hF (fun w hS => Y.move hF rfl) rfl fun a hF => ?_
             refine stepV (i := 1) rfl hF (fun w hS => Y.eql hF rfl rfl) rfl fun a hF => ?_
             refine stepV (i := 2) rfl hF (fun w hS => Y.move hF rfl) rfl fun a hF => ?_
             refine stepV_on (i := 3) rfl hF rfl rfl hbv_14 (fun w hS => Y.move hF rfl) rfl fun a hF => ?_
             refine stepV_on (i := 4) rfl hF rfl rfl hbv_14 (fun w hS => Y.eql hF rfl rfl) rfl fun a hF => ?_
             refine stepV (i := 5) rfl hF (fun w hS => Y.pick_t hF rfl hbv_14 rfl) rfl fun a hF => ?_
             refine stepV (i := 6) rfl hF (fun w hS => Y.move hF rfl) rfl fun a hF => ?_
             refine stepV_off (i := 7) rfl hF rfl rfl hbv_15 rfl fun a hF => ?_
             refine stepV_off (i := 8) rfl hF rfl rfl hbv_15 rfl fun a hF => ?_
             refine stepV (i := 9) rfl hF (fun w hS => Y.pick_f hF rfl hbv_15 rfl) rfl fun a hF => ?_
             refine stepV (i := 10) rfl hF (fun w hS => Y.move hF rfl) rfl fun a hF => ?_
             refine stepV_off (i := 11) rfl hF rfl rfl rfl rfl fun a hF => ?_
             refine stepV_off (i := 12) rfl hF rfl rfl rfl rfl fun a hF => ?_
             refine stepV (i := 13) rfl hF (fun w hS => Y.pick_f hF rfl rfl rfl) rfl fun a hF => ?_
             refine stepV (i := 14) rfl hF (fun w hS => Y.move hF rfl) rfl fun a hF => ?_
             refine stepV_off (i := 15) rfl hF rfl rfl rfl rfl fun a hF => ?_
             refine stepV_off (i := 16) rfl hF rfl rfl rfl rfl fun a hF => ?_
             refine stepV (i := 17) rfl hF (fun w hS => Y.pick_f hF rfl rfl rfl) rfl fun a hF => ?_
             refine stepV (i := 18) rfl hF (fun w hS => Y.move hF rfl) rfl fun a hF => ?_
             refine stepV_off (i := 19) rfl hF rfl rfl rfl rfl fun a hF => ?_
             refine stepV_off (i := 20) rfl hF rfl rfl rfl rfl fun a hF => ?_
             refine stepV_off (i := 21) rfl hF rfl rfl rfl rfl fun a hF => ?_
             refine stepV_off (i := 22) rfl hF rfl rfl rfl rfl fun a hF => ?_
             refine stepV_off (i := 23) rfl hF rfl rfl rfl rfl fun a hF => ?_
             refine stepV_off (i := 24) rfl hF rfl rfl rfl rfl fun a hF => ?_
             refine stepV_off (i := 25) rfl hF rfl rfl rfl rfl fun a hF => ?_
             refine oneV (i := 26) rfl ?_ trivial
             refine guard_off hF rfl rfl rfl rfl fun a hF => nil (then_n ⟨hS.weak ⟨rfl, rfl, rfl, rfl, rfl, rfl, rfl, rfl, rfl, rfl, trivial⟩, ?_⟩)
             refine stepV_off (i := 27) rfl hF rfl rfl rfl rfl fun a hF => ?_
             refine stepV (i := 28) rfl hF (fun w hS => Y.pick_f hF rfl rfl rfl) rfl fun a hF => ?_
             refine stepV (i := 29) rfl hF (fun w hS => Y.move hF rfl) rfl fun a hF => ?_
             refine stepV_off (i := 30) rfl hF rfl rfl rfl rfl fun a hF => ?_
             refine stepV_off (i := 31) rfl hF rfl rfl rfl rfl fun a hF => ?_
             refine stepV_off (i := 32) rfl hF rfl rfl rfl rfl fun a hF => ?_
             refine stepV_off (i := 33) rfl hF rfl rfl rfl rfl fun a hF => ?_
             refine stepV_off (i := 34) rfl hF rfl rfl rfl rfl fun a hF => ?_
             refine stepV_off (i := 35) rfl hF rfl rfl rfl rfl fun a hF => ?_
             refine stepV_off (i := 36) rfl hF rfl rfl rfl rfl fun a hF => ?_
             refine stepV_off (i := 37) rfl hF rfl rfl rfl rfl fun a hF => ?_
             refine stepV_off (i := 38) rfl hF rfl rfl rfl rfl fun a hF => ?_
             refine stepV_off (i := 39) rfl hF rfl rfl rfl rfl fun a hF => ?_
             refine stepV_off (i := 40) rfl hF rfl rfl rfl rfl fun a hF => ?_
             refine oneV (i := 41) rfl ?_ trivial
             refine guard_off hF rfl rfl rfl rfl fun a hF => nil (then_n ⟨hS.weak ⟨rfl, rfl, rfl, rfl, rfl, rfl, rfl, rfl, rfl, rfl, trivial⟩, ?_⟩)
             refine oneV (i := 42) rfl ?_ trivial
             refine guard_off hF rfl rfl rfl rfl fun a hF => nil (then_n ⟨hS.weak ⟨rfl, rfl, rfl, rfl, rfl, rfl, rfl, rfl, rfl, rfl, trivial⟩, ?_⟩)
             refine stepV (i := 43) rfl hF (fun w hS => Y.pick_f hF rfl rfl rfl) rfl fun a hF => ?_
             refine stepV (i := 44) rfl hF (fun w hS => Y.move hF rfl) rfl fun a hF => ?_
             refine stepV_off (i := 45) rfl hF rfl rfl rfl rfl fun a hF => ?_
             refine stepV_off (i := 46) rfl hF rfl rfl rfl rfl fun a hF => ?_
             refine stepV_off (i := 47) rfl hF rfl rfl rfl rfl fun a hF => ?_
             refine stepV_off (i := 48) rfl hF rfl rfl rfl rfl fun a hF => ?_
             refine stepV_off (i := 49) rfl hF rfl rfl rfl rfl fun a hF => ?_
             refine stepV_off (i := 50) rfl hF rfl rfl rfl rfl fun a hF => ?_
             refine stepV_off (i := 51) rfl hF rfl rfl rfl rfl fun a hF => ?_
             refine stepV_off (i := 52) rfl hF rfl rfl rfl rfl fun a hF => ?_
             refine stepV_off (i := 53) rfl hF rfl rfl rfl rfl fun a hF => ?_
             refine stepV_off (i := 54) rfl hF rfl rfl rfl rfl fun a hF => ?_
             refine stepV_off (i := 55) rfl hF rfl rfl rfl rfl fun a hF => ?_
             refine oneV (i := 56) rfl ?_ trivial
             refine guard_off hF rfl rfl rfl rfl fun a hF => nil (then_n ⟨hS.weak ⟨rfl, rfl, rfl, rfl, rfl, rfl, rfl, rfl, rfl, rfl, trivial⟩, ?_⟩)
             refine oneV (i := 57) rfl ?_ trivial
             refine guard_off hF rfl rfl rfl rfl fun a hF => nil (then_n ⟨hS.weak ⟨rfl, rfl, rfl, rfl, rfl, rfl, rfl, rfl, rfl, rfl, trivial⟩, ?_⟩)
             refine stepV (i := 58) rfl hF (fun w hS => Y.pick_f hF rfl rfl rfl) rfl fun a hF => ?_
             refine stepV (i := 59) rfl hF (fun w hS => Y.move hF rfl) rfl fun a hF => ?_
             refine stepV_off (i := 60) rfl hF rfl rfl rfl rfl fun a hF => ?_
             refine stepV_off (i := 61) rfl hF rfl rfl rfl rfl fun a hF => ?_
             refine stepV_off (i := 62) rfl hF rfl rfl rfl rfl fun a hF => ?_
             refine stepV_off (i := 63) rfl hF rfl rfl rfl rfl fun a hF => ?_
             refine stepV_offu (i := 64) rfl hF rfl rfl rfl fun a hF => ?_
             refine oneV (i := 65) rfl ?_ trivial
             refine guard_offu hF rfl rfl rfl fun a hF => nil (then_n ⟨hS.weak ⟨rfl, rfl, rfl, rfl, rfl, rfl, rfl, rfl, rfl, rfl, trivial⟩, ?_⟩)
             refine stepV_offu (i := 66) rfl hF rfl rfl rfl fun a hF => ?_
             refine stepV_off (i := 67) rfl hF rfl rfl rfl rfl fun a hF => ?_
             refine stepV (i := 68) rfl hF (fun w hS => Y.pick_f hF rfl rfl rfl) rfl fun a hF => ?_
             exact toTailV ⟨hF.weak ⟨rfl, rfl, trivial⟩, hS.weak ⟨rfl, rfl, rfl, rfl, rfl, rfl, rfl, rfl, rfl, rfl, trivial⟩⟩
         ·as_aux_lemma =>
           skip
           replace ht_10 := cond_f ht_10 hbv_14
           obtain rfl := some_inj ht_10
           replace ht_11 := cond_f ht_11 rfl
           obtain rfl := some_inj ht_11
           replace ht_12 := cond_f ht_12 rfl
           obtain rfl := some_inj ht_12
           replace ht_13 := cond_f ht_13 rfl
           obtain rfl := some_inj ht_13
           replace ht_14 := cond_f ht_14 rfl
           obtain rfl := some_inj ht_14
           replace ht_15 := cond_f ht_15 rfl
           obtain rfl := some_inj ht_15
           replace ht_16 := cond_f ht_16 rfl
           obtain rfl := some_inj ht_16
           replace ht_18 := cond_f ht_18 rfl
           obtain rfl := some_inj ht_18
           refine stepV (i := 0) rfl hF (fun w hS => Y.move hF rfl) rfl fun a hF => ?_
           refine stepV (i := 1) rfl hF (fun w hS => Y.eql hF rfl rfl) rfl fun a hF => ?_
           refine stepV (i := 2) rfl hF (fun w hS => Y.move hF rfl) rfl fun a hF => ?_
           refine stepV_off (i := 3) rfl hF rfl rfl hbv_14 rfl fun a hF => ?_
           refine stepV_off (i := 4) rfl hF rfl rfl hbv_14 rfl fun a hF => ?_
           refine stepV (i := 5) rfl hF (fun w hS => Y.pick_f hF rfl hbv_14 rfl) rfl fun a hF => ?_
           refine stepV (i := 6) rfl hF (fun w hS => Y.move hF rfl) rfl fun a hF => ?_
           refine stepV_off (i := 7) rfl hF rfl rfl rfl rfl fun a hF => ?_
           refine stepV_off (i := 8) rfl hF rfl rfl rfl rfl fun a hF => ?_
           refine stepV (i := 9) rfl hF (fun w hS => Y.pick_f hF rfl rfl rfl) rfl fun a hF => ?_
           refine stepV (i := 10) rfl hF (fun w hS => Y.move hF rfl) rfl fun a hF => ?_
           refine stepV_off (i := 11) rfl hF rfl rfl rfl rfl fun a hF => ?_
           refine stepV_off (i := 12) rfl hF rfl rfl rfl rfl fun a hF => ?_
           refine stepV (i := 13) rfl hF (fun w hS => Y.pick_f hF rfl rfl rfl) rfl fun a hF => ?_
           refine stepV (i := 14) rfl hF (fun w hS => Y.move hF rfl) rfl fun a hF => ?_
           refine stepV_off (i := 15) rfl hF rfl rfl rfl rfl fun a hF => ?_
           refine stepV_off (i := 16) rfl hF rfl rfl rfl rfl fun a hF => ?_
           refine stepV (i := 17) rfl hF (fun w hS => Y.pick_f hF rfl rfl rfl) rfl fun a hF => ?_
           refine stepV (i := 18) rfl hF (fun w hS => Y.move hF rfl) rfl fun a hF => ?_
           refine stepV_off (i := 19) rfl hF rfl rfl rfl rfl fun a hF => ?_
           refine stepV_off (i := 20) rfl hF rfl rfl rfl rfl fun a hF => ?_
           refine stepV_off (i := 21) rfl hF rfl rfl rfl rfl fun a hF => ?_
           refine stepV_off (i := 22) rfl hF rfl rfl rfl rfl fun a hF => ?_
           refine stepV_off (i := 23) rfl hF rfl rfl rfl rfl fun a hF => ?_
           refine stepV_off (i := 24) rfl hF rfl rfl rfl rfl fun a hF => ?_
           refine stepV_off (i := 25) rfl hF rfl rfl rfl rfl fun a hF => ?_
           refine oneV (i := 26) rfl ?_ trivial
           refine guard_off hF rfl rfl rfl rfl fun a hF => nil (then_n ⟨hS.weak ⟨rfl, rfl, rfl, rfl, rfl, rfl, rfl, rfl, rfl, rfl, trivial⟩, ?_⟩)
           refine stepV_off (i := 27) rfl hF rfl rfl rfl rfl fun a hF => ?_
           refine stepV (i := 28) rfl hF (fun w hS => Y.pick_f hF rfl rfl rfl) rfl fun a hF => ?_
           refine stepV (i := 29) rfl hF (fun w hS => Y.move hF rfl) rfl fun a hF => ?_
           refine stepV_off (i := 30) rfl hF rfl rfl rfl rfl fun a hF => ?_
           refine stepV_off (i := 31) rfl hF rfl rfl rfl rfl fun a hF => ?_
           refine stepV_off (i := 32) rfl hF rfl rfl rfl rfl fun a hF => ?_
           refine stepV_off (i := 33) rfl hF rfl rfl rfl rfl fun a hF => ?_
           refine stepV_off (i := 34) rfl hF rfl rfl rfl rfl fun a hF => ?_
           refine stepV_off (i := 35) rfl hF rfl rfl rfl rfl fun a hF => ?_
           refine stepV_off (i := 36) rfl hF rfl rfl rfl rfl fun a hF => ?_
           refine stepV_off (i := 37) rfl hF rfl rfl rfl rfl fun a hF => ?_
           refine stepV_off (i := 38) rfl hF rfl rfl rfl rfl fun a hF => ?_
           refine stepV_off (i := 39) rfl hF rfl rfl rfl rfl fun a hF => ?_
           refine stepV_off (i := 40) rfl hF rfl rfl rfl rfl fun a hF => ?_
           refine oneV (i := 41) rfl ?_ trivial
           refine guard_off hF rfl rfl rfl rfl fun a hF => nil (then_n ⟨hS.weak ⟨rfl, rfl, rfl, rfl, rfl, rfl, rfl, rfl, rfl, rfl, trivial⟩, ?_⟩)
           refine oneV (i := 42) rfl ?_ trivial
           refine guard_off hF rfl rfl rfl rfl fun a hF => nil (then_n ⟨hS.weak ⟨rfl, rfl, rfl, rfl, rfl, rfl, rfl, rfl, rfl, rfl, trivial⟩, ?_⟩)
           refine stepV (i := 43) rfl hF (fun w hS => Y.pick_f hF rfl rfl rfl) rfl fun a hF => ?_
           refine stepV (i := 44) rfl hF (fun w hS => Y.move hF rfl) rfl fun a hF => ?_
           refine stepV_off (i := 45) rfl hF rfl rfl rfl rfl fun a hF => ?_
           refine stepV_off (i := 46) rfl hF rfl rfl rfl rfl fun a hF => ?_
           refine stepV_off (i := 47) rfl hF rfl rfl rfl rfl fun a hF => ?_
           refine stepV_off (i := 48) rfl hF rfl rfl rfl rfl fun a hF => ?_
           refine stepV_off (i := 49) rfl hF rfl rfl rfl rfl fun a hF => ?_
           refine stepV_off (i := 50) rfl hF rfl rfl rfl rfl fun a hF => ?_
           refine stepV_off (i := 51) rfl hF rfl rfl rfl rfl fun a hF => ?_
           refine stepV_off (i := 52) rfl hF rfl rfl rfl rfl fun a hF => ?_
           refine stepV_off (i := 53) rfl hF rfl rfl rfl rfl fun a hF => ?_
           refine stepV_off (i := 54) rfl hF rfl rfl rfl rfl fun a hF => ?_
           refine stepV_off (i := 55) rfl hF rfl rfl rfl rfl fun a hF => ?_
           refine oneV (i := 56) rfl ?_ trivial
           refine guard_off hF rfl rfl rfl rfl fun a hF => nil (then_n ⟨hS.weak ⟨rfl, rfl, rfl, rfl, rfl, rfl, rfl, rfl, rfl, rfl, trivial⟩, ?_⟩)
           refine oneV (i := 57) rfl ?_ trivial
           refine guard_off hF rfl rfl rfl rfl fun a hF => nil (then_n ⟨hS.weak ⟨rfl, rfl, rfl, rfl, rfl, rfl, rfl, rfl, rfl, rfl, trivial⟩, ?_⟩)
           refine stepV (i := 58) rfl hF (fun w hS => Y.pick_f hF rfl rfl rfl) rfl fun a hF => ?_
           refine stepV (i := 59) rfl hF (fun w hS => Y.move hF rfl) rfl fun a hF => ?_
           refine stepV_off (i := 60) rfl hF rfl rfl rfl rfl fun a hF => ?_
           refine stepV_off (i := 61) rfl hF rfl rfl rfl rfl fun a hF => ?_
           refine stepV_off (i := 62) rfl hF rfl rfl rfl rfl fun a hF => ?_
           refine stepV_off (i := 63) rfl hF rfl rfl rfl rfl fun a hF => ?_
           refine stepV_offu (i := 64) rfl hF rfl rfl rfl fun a hF => ?_
           refine oneV (i := 65) rfl ?_ trivial
           refine guard_offu hF rfl rfl rfl fun a hF => nil (then_n ⟨hS.weak ⟨rfl, rfl, rfl, rfl, rfl, rfl, rfl, rfl, rfl, rfl, trivial⟩, ?_⟩)
           refine stepV_offu (i := 66) rfl hF rfl rfl rfl fun a hF => ?_
           refine stepV_off (i := 67) rfl hF rfl rfl rfl rfl fun a hF => ?_
           refine stepV (i := 68) rfl hF (fun w hS => Y.pick_f hF rfl rfl rfl) rfl fun a hF => ?_
           exact toTailV ⟨hF.weak ⟨rfl, rfl, trivial⟩, hS.weak ⟨rfl, rfl, rfl, rfl, rfl, rfl, rfl, rfl, rfl, rfl, trivial⟩⟩
       rintro a w ⟨hF, hS⟩
       refine step hF (Y.move hF rfl) rfl fun a hF => ?_
       obtain ⟨t_19, ht_19, h⟩ := bind_some h
       refine join (N := 306) (rs := []) (w0 := w0) (D0 := D0) 2 (us := [(6, .bool false), (305, .bool t_19)]) (ms := [(1, .cells b [.int .i64 c.Hours, .slice p c.Rates.length c_1, .slice p_1 c.Opens.length c_2, .slice p_2 c.Pairs.length c_3] 26), (2, .cells b_1 [.int .i64 n.a0, .int .i64 n.a1, .int .i64 n.a2] 39), (3, .cells b_2 [.int .i64 m.a0, .int .i64 m.a1, .int .i64 m.a2] 39), (4, .cells b_3 [.int .i64 rv_8.1.Low, .int .i64 rv_8.1.High] 34), (5, .cells b_4 [.int .i64 rv_9.1.Low, .int .i64 rv_9.1.High] 34), (6, .cells b_5 [.int .i64 rv_21.1.Low, .int .i64 rv_21.1.High] 34), (7, .cells b_6 [.int .i64 rv_22.1.Low, .int .i64 rv_22.1.High] 34), (8, .cells b_7 [.int .i64 rv_23.1.Low, .int .i64 rv_23.1.High] 34), (9, .cells b_8 [.int .i64 rv_24.1.Low, .int .i64 rv_24.1.High] 34), (10, .cells b_9 [.int .i64 rv_25.1.Low, .int .i64 rv_25.1.High] 34)]) (D' := D0) ?_ ?_
       ·rcases bcases t_18 with hbv_23 | hbv_23
        ·-- true
         replace h := cond_t ht_19 hbv_23
         refine guard_on hF rfl rfl hbv_23 ?_
         obtain ⟨rv_32, hx_32, h⟩ := bind_some h
         refine O.callP (us := []) ca_21 hF hS (remontoirlaw02_works_ok hS.stab hG rv_32 hx_32) rfl rfl fun a w hF hS => ?_
         refine step hF (Y.pick_t hF rfl hbv_23 rfl) rfl fun a hF => ?_
         obtain rfl := some_inj h
         exact nil (then_n ⟨hF.weak ⟨rfl, rfl, trivial⟩, hS.weak ⟨rfl, rfl, rfl, rfl, rfl, rfl, rfl, rfl, rfl, rfl, trivial⟩⟩)
        ·-- false
         replace h := cond_f ht_19 hbv_23
         refine guard_off hF rfl rfl hbv_23 rfl fun a hF => ?_
         refine step hF (Y.pick_f hF rfl hbv_23 rfl) rfl fun a hF => ?_
         obtain rfl := some_inj h
         exact nil (then_n ⟨hF.weak ⟨rfl, rfl, trivial⟩, hS.weak ⟨rfl, rfl, rfl, rfl, rfl, rfl, rfl, rfl, rfl, rfl, trivial⟩⟩)
       intro a w hF hS
       refine step hF (Y.assign hF rfl) rfl fun a hF => ?_
       refine nil (then_n ?_)
       refine ret_ ?_
       obtain rfl := some_inj h
       exact leaveP Tryd.results11 hF hS (.cons (.tmp rfl) .nil) .nil rfl

end Go.Proofs.YtpniidbbbhbglaaDoor.Rt
