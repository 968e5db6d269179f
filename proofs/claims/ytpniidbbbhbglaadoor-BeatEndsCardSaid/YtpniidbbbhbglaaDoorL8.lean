/- Walks of the functions of this seat: what each Go function comes to, as a Lean function, and the proof. A law. Under no conditions. -/
import Derived.Test.YtpniidbbbhbglaaDoorWSZ
set_option linter.unusedVariables false
set_option linter.unusedSimpArgs false
set_option maxRecDepth 100000
set_option maxHeartbeats 4000000
namespace Go.Proofs.YtpniidbbbhbglaaDoor.Rt
open Go Go.RowKit
noncomputable def remontoirlaw02_BeatEnds_b1 (c : BeatCellar) (rv_2 : Int) (rv_3 : Int) (rv_4 : Int) (rv_5 : Int) (rv_6 : (Span × Int)) (rv_7 : (Span × Int)) : (Bool × Int) → Option ((Bool × Int) ⊕ Bool)
 | (v4_0, m) =>
  cond (decide (m < 2))
  ((beat_Case c rv_2 rv_4 (m == 1)).bind fun rv_9 =>
  (beat_IsTruth c rv_9.1).bind fun rv_10 =>
  (cond (rv_9.2 != 0) (some true) (some (rv_10.2 != 0))).bind fun t_1 =>
  (cond t_1 (some true) (some (!rv_10.1))).bind fun t_2 =>
  (cond t_2 (some true) (some ((rv_9.1.length : Int) != (c.Rates.length : Int)))).bind fun t_3 =>
  (cond t_3 (some true) ((idx rv_9.1 rv_2).bind fun e =>
  some ((e.length : Int) != (wr (c.Hours + 1))))).bind fun t_4 =>
  (cond t_4 (some true) ((idx rv_9.1 rv_3).bind fun e_1 =>
  some ((e_1.length : Int) != (wr (c.Hours + 1))))).bind fun t_5 =>
  (cond t_5 (some true) ((idx rv_9.1 rv_3).bind fun e_2 =>
  (idx e_2 rv_5).bind fun e_3 =>
  (remontoirref00_Has rv_7.1 e_3).bind fun rv_11 =>
  some (!rv_11))).bind fun t_6 =>
  cond t_6
  (ext (some false))
  ((cond (m == 0) ((idx rv_9.1 rv_2).bind fun e_4 =>
  (idx e_4 rv_4).bind fun e_5 =>
  some (e_5 != rv_6.1.Low)) (some false)).bind fun t_7 =>
  (cond t_7 (some true) ((cond (m == 1) ((idx rv_9.1 rv_2).bind fun e_6 =>
  (idx e_6 rv_4).bind fun e_7 =>
  some (e_7 != rv_6.1.High)) (some false)).bind fun t_8 =>
  some t_8)).bind fun t_9 =>
  cond t_9
  (ext (some false))
  (nxt (v4_0, wr (m + 1)))))
  (ext ((remontoirlaw02_works).bind fun rv_12 =>
  some rv_12))
noncomputable def remontoirlaw02_BeatEnds (c : BeatCellar) (n : Arr4) : Option Bool :=
  (remontoirlaw02_sound c).bind fun rv =>
  cond (!rv)
  ((remontoirlaw02_works).bind fun rv_1 =>
  some rv_1)
  ((remontoirref00_Rest n.a0 (c.Rates.length : Int)).bind fun rv_2 =>
  (remontoirref00_Rest n.a1 (c.Rates.length : Int)).bind fun rv_3 =>
  (remontoirref00_Rest n.a2 (wr (c.Hours + 1))).bind fun rv_4 =>
  (remontoirref00_Rest n.a3 (wr (c.Hours + 1))).bind fun rv_5 =>
  (beat_Offset c rv_2 rv_4).bind fun rv_6 =>
  (beat_Offset c rv_3 rv_5).bind fun rv_7 =>
  cond ((rv_6.2 != rv_7.2) || (rv_6.2 != 0))
  ((cond (((rv_6.2 == rv_7.2) && (rv_6.2 == 22)) && ([rv_6.1.Low, rv_6.1.High] == [rv_7.1.Low, rv_7.1.High])) ((remontoirlaw02_works).bind fun rv_8 =>
  some rv_8) (some false)).bind fun t =>
  some t)
  (loopU (remontoirlaw02_BeatEnds_b1 c rv_2 rv_3 rv_4 rv_5 rv_6 rv_7) (false, 0)))
theorem remontoirlaw02_BeatEnds_ok {w0 : World} {D0 : Stab} (hD : D0.on w0) (c : BeatCellar) (n : Arr4) {p : Option Addr} {c_1 : Nat} {p_1 : Option Addr} {c_2 : Nat} {p_2 : Option Addr} {c_3 : Nat} (hs : SRc C_Span D0 c.Rates p c_1) (hs_1 : SRc C_BeatOpen D0 c.Opens p_1 c_2) (hs_2 : SRc C_BeatPair D0 c.Pairs p_2 c_3) (hG : Glob D0) (out : Bool) (h : remontoirlaw02_BeatEnds c n = some out) : Calls Tryd.prog 8 [.agg #[.int .i64 c.Hours, .slice p c.Rates.length c_1, .slice p_1 c.Opens.length c_2, .slice p_2 c.Pairs.length c_3], .agg #[.int .i64 n.a0, .int .i64 n.a1, .int .i64 n.a2, .int .i64 n.a3]].toArray w0 (RetP D0 w0 (.bool out)) := by
 refine enter _ 184 Tryd.func8 rfl Tryd.ntmps8 rfl fun a hF => ?_
 replace hF : Frm 184 [] [(0, .agg #[.int .i64 c.Hours, .slice p c.Rates.length c_1, .slice p_1 c.Opens.length c_2, .slice p_2 c.Pairs.length c_3]), (1, .agg #[.int .i64 n.a0, .int .i64 n.a1, .int .i64 n.a2, .int .i64 n.a3])] a := hF
 have hS := St.start hD
 unfold remontoirlaw02_BeatEnds at h
 refine seq ?_
 refine region ?_
 refine O.box (cs := [.int .i64 c.Hours, .slice p c.Rates.length c_1, .slice p_1 c.Opens.length c_2, .slice p_2 c.Pairs.length c_3]) 1 hF rfl rfl hS rfl fun b a w hF hS => ?_
 refine O.box (cs := [.int .i64 n.a0, .int .i64 n.a1, .int .i64 n.a2, .int .i64 n.a3]) 2 hF rfl rfl hS rfl fun b_1 a w hF hS => ?_
 refine step hF (Y.assign hF rfl) rfl fun a hF => ?_
 refine nil (then_n ?_)
 refine seq ?_
 refine seq ?_
 refine region ?_
 refine step hF (Y.loadNL 1 sz_26 hF rfl hS rfl rfl rfl) rfl fun a hF => ?_
 obtain ⟨rv, hx, h⟩ := bind_some h
 refine O.callP (us := [.agg #[.int .i64 c.Hours, .slice p c.Rates.length c_1, .slice p_1 c.Opens.length c_2, .slice p_2 c.Pairs.length c_3]]) ca_32 hF hS (remontoirlaw02_sound_ok hS.stab c hs hs_1 hs_2 rv hx) rfl rfl fun a w hF hS => ?_
 refine step hF (Y.not hF rfl) rfl fun a hF => ?_
 refine nil (then_n ?_)
 refine cond_b hF rfl (fun hbv => ?_) (fun hbv => ?_)
 ·replace h := cond_t h hbv
  refine seq ?_
  refine region ?_
  obtain ⟨rv_1, hx_1, h⟩ := bind_some h
  refine O.callP (us := []) ca_21 hF hS (remontoirlaw02_works_ok hS.stab hG rv_1 hx_1) rfl rfl fun a w hF hS => ?_
  refine step hF (Y.assign hF rfl) rfl fun a hF => ?_
  refine nil (then_n ?_)
  refine ret_ (then_r ?_)
  obtain rfl := some_inj h
  exact leaveP Tryd.results8 hF hS (.cons (.tmp rfl) .nil) .nil rfl
 ·replace h := cond_f h hbv
  refine skip_ (then_n ?_)
  refine seq ?_
  obtain ⟨rv_2, hx_2, h⟩ := bind_some h
  refine drawsV 11 (.flt 0 (.flt 1 (.flt 2 (.flt 3 (.flt 4 (.flt 6 (.flt 7 (.flt 8 (.flt 9 (.flt 10 (.alt 5 .done .stop))))))))))) mixed_ (by kernel_rfl) (fun w => St w0 D0 D0 [(1, .cells b [.int .i64 c.Hours, .slice p c.Rates.length c_1, .slice p_1 c.Opens.length c_2, .slice p_2 c.Pairs.length c_3] 26), (2, .cells b_1 [.int .i64 n.a0, .int .i64 n.a1, .int .i64 n.a2, .int .i64 n.a3] 52)] w) (fun a w => Frm 184 [] [(2, .pointer (some ⟨b, 0, none⟩)), (3, .pointer (some ⟨b_1, 0, none⟩)), (4, .bool false), (27, .int .i64 rv_2), (29, .int .i64 n.a1), (32, .int .i64 (c.Rates.length : Int))] a ∧ St w0 D0 D0 [(1, .cells b [.int .i64 c.Hours, .slice p c.Rates.length c_1, .slice p_1 c.Opens.length c_2, .slice p_2 c.Pairs.length c_3] 26), (2, .cells b_1 [.int .i64 n.a0, .int .i64 n.a1, .int .i64 n.a2, .int .i64 n.a3] 52)] w) (hS.weak (ms := [(1, .cells b [.int .i64 c.Hours, .slice p c.Rates.length c_1, .slice p_1 c.Opens.length c_2, .slice p_2 c.Pairs.length c_3] 26), (2, .cells b_1 [.int .i64 n.a0, .int .i64 n.a1, .int .i64 n.a2, .int .i64 n.a3] 52)]) ⟨rfl, rfl, trivial⟩).drew (fun _ _ _ _ h => h) ?_ ?_
  ·replace hS := hS.drew
   have hle0 := hS.le
   refine stepV (i := 0) rfl hF (fun w hS => Y.indexArr u_52 sz_3 hF rfl rfl (by decide) (by decide)) rfl fun a hF => ?_
   refine stepV (i := 1) rfl hF (fun w hS => Y.load1L 2 sz_3 hF rfl hS rfl rfl) rfl fun a hF => ?_
   refine stepV (i := 2) rfl hF (fun w hS => Y.fieldAddr fo_26_1 hF rfl) rfl fun a hF => ?_
   refine stepV (i := 3) rfl hF (fun w hS => Y.load1L 1 sz_22 hF rfl hS rfl rfl) rfl fun a hF => ?_
   refine stepV (i := 4) rfl hF (fun w hS => Y.lenSl u_22 hF rfl) rfl fun a hF => ?_
   refine stepV (i := 6) rfl hF (fun w hS => Y.indexArr u_52 sz_3 hF rfl rfl (by decide) (by decide)) rfl fun a hF => ?_
   refine stepV (i := 7) rfl hF (fun w hS => Y.load1L 2 sz_3 hF rfl hS rfl rfl) rfl fun a hF => ?_
   refine stepV (i := 8) rfl hF (fun w hS => Y.fieldAddr fo_26_1 hF rfl) rfl fun a hF => ?_
   refine stepV (i := 9) rfl hF (fun w hS => Y.load1L 1 sz_22 hF rfl hS rfl rfl) rfl fun a hF => ?_
   refine stepV (i := 10) rfl hF (fun w hS => Y.lenSl u_22 hF rfl) rfl fun a hF => ?_
   refine oneV (i := 5) rfl ?_ trivial
   refine O.callP (us := [.int .i64 n.a0, .int .i64 (c.Rates.length : Int)]) ca_34 hF hS (remontoirref00_Rest_ok hS.stab n.a0 (c.Rates.length : Int) rv_2 hx_2) rfl rfl fun a w hF hS => ?_
   refine nil (then_n ⟨hS.weak (ms := [(1, .cells b [.int .i64 c.Hours, .slice p c.Rates.length c_1, .slice p_1 c.Opens.length c_2, .slice p_2 c.Pairs.length c_3] 26), (2, .cells b_1 [.int .i64 n.a0, .int .i64 n.a1, .int .i64 n.a2, .int .i64 n.a3] 52)]) ⟨rfl, rfl, trivial⟩, ?_⟩)
   exact toTailV ⟨hF.weak ⟨rfl, rfl, rfl, rfl, rfl, rfl, trivial⟩, hS.weak ⟨rfl, rfl, trivial⟩⟩
  rintro a w ⟨hF, hS⟩
  obtain ⟨rv_3, hx_3, h⟩ := bind_some h
  refine O.callP (us := [.int .i64 n.a1, .int .i64 (c.Rates.length : Int)]) ca_34 hF hS (remontoirref00_Rest_ok hS.stab n.a1 (c.Rates.length : Int) rv_3 hx_3) rfl rfl fun a w hF hS => ?_
  refine step hF (Y.assign hF rfl) rfl fun a hF => ?_
  refine step hF (Y.assign hF rfl) rfl fun a hF => ?_
  refine nil (then_n ?_)
  refine seq ?_
  obtain ⟨rv_4, hx_4, h⟩ := bind_some h
  refine drawsV 11 (.flt 0 (.flt 1 (.flt 2 (.flt 3 (.flt 4 (.flt 6 (.flt 7 (.flt 8 (.flt 9 (.flt 10 (.alt 5 .done .stop))))))))))) mixed_ (by kernel_rfl) (fun w => St w0 D0 D0 [(1, .cells b [.int .i64 c.Hours, .slice p c.Rates.length c_1, .slice p_1 c.Opens.length c_2, .slice p_2 c.Pairs.length c_3] 26), (2, .cells b_1 [.int .i64 n.a0, .int .i64 n.a1, .int .i64 n.a2, .int .i64 n.a3] 52)] w) (fun a w => Frm 184 [] [(2, .pointer (some ⟨b, 0, none⟩)), (4, .bool false), (5, .int .i64 rv_2), (6, .int .i64 rv_3), (39, .int .i64 rv_4), (41, .int .i64 n.a3), (44, .int .i64 (wr (c.Hours + 1)))] a ∧ St w0 D0 D0 [(1, .cells b [.int .i64 c.Hours, .slice p c.Rates.length c_1, .slice p_1 c.Opens.length c_2, .slice p_2 c.Pairs.length c_3] 26), (2, .cells b_1 [.int .i64 n.a0, .int .i64 n.a1, .int .i64 n.a2, .int .i64 n.a3] 52)] w) (hS.weak (ms := [(1, .cells b [.int .i64 c.Hours, .slice p c.Rates.length c_1, .slice p_1 c.Opens.length c_2, .slice p_2 c.Pairs.length c_3] 26), (2, .cells b_1 [.int .i64 n.a0, .int .i64 n.a1, .int .i64 n.a2, .int .i64 n.a3] 52)]) ⟨rfl, rfl, trivial⟩).drew (fun _ _ _ _ h => h) ?_ ?_
  ·replace hS := hS.drew
   have hle0 := hS.le
   refine stepV (i := 0) rfl hF (fun w hS => Y.indexArr u_52 sz_3 hF rfl rfl (by decide) (by decide)) rfl fun a hF => ?_
   refine stepV (i := 1) rfl hF (fun w hS => Y.load1L 2 sz_3 hF rfl hS rfl rfl) rfl fun a hF => ?_
   refine stepV (i := 2) rfl hF (fun w hS => Y.fieldAddr fo_26_0 hF rfl) rfl fun a hF => ?_
   refine stepV (i := 3) rfl hF (fun w hS => Y.load1L 1 sz_3 hF rfl hS rfl rfl) rfl fun a hF => ?_
   refine stepV (i := 4) rfl hF (fun w hS => Y.add hF rfl rfl) rfl fun a hF => ?_
   refine stepV (i := 6) rfl hF (fun w hS => Y.indexArr u_52 sz_3 hF rfl rfl (by decide) (by decide)) rfl fun a hF => ?_
   refine stepV (i := 7) rfl hF (fun w hS => Y.load1L 2 sz_3 hF rfl hS rfl rfl) rfl fun a hF => ?_
   refine stepV (i := 8) rfl hF (fun w hS => Y.fieldAddr fo_26_0 hF rfl) rfl fun a hF => ?_
   refine stepV (i := 9) rfl hF (fun w hS => Y.load1L 1 sz_3 hF rfl hS rfl rfl) rfl fun a hF => ?_
   refine stepV (i := 10) rfl hF (fun w hS => Y.add hF rfl rfl) rfl fun a hF => ?_
   refine oneV (i := 5) rfl ?_ trivial
   refine O.callP (us := [.int .i64 n.a2, .int .i64 (wr (c.Hours + 1))]) ca_34 hF hS (remontoirref00_Rest_ok hS.stab n.a2 (wr (c.Hours + 1)) rv_4 hx_4) rfl rfl fun a w hF hS => ?_
   refine nil (then_n ⟨hS.weak (ms := [(1, .cells b [.int .i64 c.Hours, .slice p c.Rates.length c_1, .slice p_1 c.Opens.length c_2, .slice p_2 c.Pairs.length c_3] 26), (2, .cells b_1 [.int .i64 n.a0, .int .i64 n.a1, .int .i64 n.a2, .int .i64 n.a3] 52)]) ⟨rfl, rfl, trivial⟩, ?_⟩)
   exact toTailV ⟨hF.weak ⟨rfl, rfl, rfl, rfl, rfl, rfl, rfl, trivial⟩, hS.weak ⟨rfl, rfl, trivial⟩⟩
  rintro a w ⟨hF, hS⟩
  obtain ⟨rv_5, hx_5, h⟩ := bind_some h
  refine O.callP (us := [.int .i64 n.a3, .int .i64 (wr (c.Hours + 1))]) ca_34 hF hS (remontoirref00_Rest_ok hS.stab n.a3 (wr (c.Hours + 1)) rv_5 hx_5) rfl rfl fun a w hF hS => ?_
  refine step hF (Y.assign hF rfl) rfl fun a hF => ?_
  refine step hF (Y.assign hF rfl) rfl fun a hF => ?_
  refine nil (then_n ?_)
  refine seq ?_
  refine region ?_
  refine step hF (Y.loadNL 1 sz_26 hF rfl hS rfl rfl rfl) rfl fun a hF => ?_
  refine step hF (Y.move hF rfl) rfl fun a hF => ?_
  refine step hF (Y.move hF rfl) rfl fun a hF => ?_
  obtain ⟨rv_6, hx_6, h⟩ := bind_some h
  refine O.callP (us := [.agg #[.int .i64 c.Hours, .slice p c.Rates.length c_1, .slice p_1 c.Opens.length c_2, .slice p_2 c.Pairs.length c_3], .int .i64 rv_2, .int .i64 rv_4]) ca_19 hF hS (beat_Offset_ok hS.stab c rv_2 rv_4 hs hs_1 hs_2 hG rv_6 hx_6) rfl rfl fun a w hF hS => ?_
  refine step hF (Y.move hF rfl) rfl fun a hF => ?_
  refine step hF (Y.extract hF rfl rfl) rfl fun a hF => ?_
  refine step hF (Y.extract hF rfl rfl) rfl fun a hF => ?_
  refine O.alloc 3 zc_34 hF hS rfl fun b_2 a w hF hS => ?_
  refine O.store (us := [.int .i64 rv_6.1.Low, .int .i64 rv_6.1.High]) 3 sz_34 hF rfl rfl rfl rfl hS rfl rfl fun a w hF hS => ?_
  refine step hF (Y.assign hF rfl) rfl fun a hF => ?_
  refine nil (then_n ?_)
  refine seq ?_
  refine region ?_
  refine step hF (Y.loadNL 1 sz_26 hF rfl hS rfl rfl rfl) rfl fun a hF => ?_
  refine step hF (Y.move hF rfl) rfl fun a hF => ?_
  refine step hF (Y.move hF rfl) rfl fun a hF => ?_
  obtain ⟨rv_7, hx_7, h⟩ := bind_some h
  refine O.callP (us := [.agg #[.int .i64 c.Hours, .slice p c.Rates.length c_1, .slice p_1 c.Opens.length c_2, .slice p_2 c.Pairs.length c_3], .int .i64 rv_3, .int .i64 rv_5]) ca_19 hF hS (beat_Offset_ok hS.stab c rv_3 rv_5 hs hs_1 hs_2 hG rv_7 hx_7) rfl rfl fun a w hF hS => ?_
  refine step hF (Y.move hF rfl) rfl fun a hF => ?_
  refine step hF (Y.extract hF rfl rfl) rfl fun a hF => ?_
  refine step hF (Y.extract hF rfl rfl) rfl fun a hF => ?_
  refine O.alloc 4 zc_34 hF hS rfl fun b_3 a w hF hS => ?_
  refine O.store (us := [.int .i64 rv_7.1.Low, .int .i64 rv_7.1.High]) 4 sz_34 hF rfl rfl rfl rfl hS rfl rfl fun a w hF hS => ?_
  refine step hF (Y.assign hF rfl) rfl fun a hF => ?_
  refine nil (then_n ?_)
  refine seq ?_
  refine seq ?_
  refine region ?_
  refine step hF (Y.move hF rfl) rfl fun a hF => ?_
  refine step hF (Y.move hF rfl) rfl fun a hF => ?_
  refine step hF (Y.neq hF rfl rfl) rfl fun a hF => ?_
  refine step hF (Y.move hF rfl) rfl fun a hF => ?_
  refine join (N := 184) (rs := []) (w0 := w0) (D0 := D0) 3 (us := [(2, .pointer (some ⟨b, 0, none⟩)), (4, .bool false), (5, .int .i64 rv_2), (6, .int .i64 rv_3), (7, .int .i64 rv_4), (8, .int .i64 rv_5), (9, .pointer (some ⟨b_2, 0, none⟩)), (10, .int .i64 rv_6.2), (11, .pointer (some ⟨b_3, 0, none⟩)), (12, .int .i64 rv_7.2), (66, .bool ((rv_6.2 != rv_7.2) || (rv_6.2 != 0)))]) (ms := [(1, .cells b [.int .i64 c.Hours, .slice p c.Rates.length c_1, .slice p_1 c.Opens.length c_2, .slice p_2 c.Pairs.length c_3] 26), (2, .cells b_1 [.int .i64 n.a0, .int .i64 n.a1, .int .i64 n.a2, .int .i64 n.a3] 52), (3, .cells b_2 [.int .i64 rv_6.1.Low, .int .i64 rv_6.1.High] 34), (4, .cells b_3 [.int .i64 rv_7.1.Low, .int .i64 rv_7.1.High] 34)]) (D' := D0) ?_ ?_
  ·rcases bcases (rv_6.2 != rv_7.2) with hbv_1 | hbv_1
   ·-- true
    refine guard_off hF rfl rfl hbv_1 rfl fun a hF => ?_
    refine guard_off hF rfl rfl hbv_1 rfl fun a hF => ?_
    refine step hF (Y.pick_t hF rfl hbv_1 rfl) rfl fun a hF => ?_
    exact nil (then_n ⟨hF.weak ⟨rfl, rfl, rfl, rfl, rfl, rfl, rfl, rfl, rfl, rfl, (by rw [hbv_1]; rfl), trivial⟩, hS.weak ⟨rfl, rfl, rfl, rfl, trivial⟩⟩)
   ·-- false
    refine guard_on hF rfl rfl hbv_1 ?_
    refine step hF (Y.move hF rfl) rfl fun a hF => ?_
    refine guard_on hF rfl rfl hbv_1 ?_
    refine step hF (Y.neq hF rfl rfl) rfl fun a hF => ?_
    refine step hF (Y.pick_f hF rfl hbv_1 rfl) rfl fun a hF => ?_
    exact nil (then_n ⟨hF.weak ⟨rfl, rfl, rfl, rfl, rfl, rfl, rfl, rfl, rfl, rfl, (by rw [hbv_1]; rfl), trivial⟩, hS.weak ⟨rfl, rfl, rfl, rfl, trivial⟩⟩)
  intro a w hF hS
  refine nil (then_n ?_)
  refine cond_b hF rfl (fun hbv_2 => ?_) (fun hbv_2 => ?_)
  ·replace h := cond_t h hbv_2
   refine seq ?_
   refine region ?_
   refine step hF (Y.move hF rfl) rfl fun a hF => ?_
   refine step hF (Y.move hF rfl) rfl fun a hF => ?_
   refine step hF (Y.eql hF rfl rfl) rfl fun a hF => ?_
   refine step hF (Y.move hF rfl) rfl fun a hF => ?_
   refine join (N := 184) (rs := []) (w0 := w0) (D0 := D0) 3 (us := [(2, .pointer (some ⟨b, 0, none⟩)), (4, .bool false), (5, .int .i64 rv_2), (6, .int .i64 rv_3), (7, .int .i64 rv_4), (8, .int .i64 rv_5), (9, .pointer (some ⟨b_2, 0, none⟩)), (11, .pointer (some ⟨b_3, 0, none⟩)), (73, .bool ((rv_6.2 == rv_7.2) && (rv_6.2 == 22)))]) (ms := [(1, .cells b [.int .i64 c.Hours, .slice p c.Rates.length c_1, .slice p_1 c.Opens.length c_2, .slice p_2 c.Pairs.length c_3] 26), (2, .cells b_1 [.int .i64 n.a0, .int .i64 n.a1, .int .i64 n.a2, .int .i64 n.a3] 52), (3, .cells b_2 [.int .i64 rv_6.1.Low, .int .i64 rv_6.1.High] 34), (4, .cells b_3 [.int .i64 rv_7.1.Low, .int .i64 rv_7.1.High] 34)]) (D' := D0) ?_ ?_
   ·rcases bcases (rv_6.2 == rv_7.2) with hbv_3 | hbv_3
    ·-- true
     refine guard_on hF rfl rfl hbv_3 ?_
     refine step hF (Y.move hF rfl) rfl fun a hF => ?_
     refine guard_on hF rfl rfl hbv_3 ?_
     refine step hF (Y.eql hF rfl rfl) rfl fun a hF => ?_
     refine step hF (Y.pick_t hF rfl hbv_3 rfl) rfl fun a hF => ?_
     exact nil (then_n ⟨hF.weak ⟨rfl, rfl, rfl, rfl, rfl, rfl, rfl, rfl, (by rw [hbv_3]; rfl), trivial⟩, hS.weak ⟨rfl, rfl, rfl, rfl, trivial⟩⟩)
    ·-- false
     refine guard_off hF rfl rfl hbv_3 rfl fun a hF => ?_
     refine guard_off hF rfl rfl hbv_3 rfl fun a hF => ?_
     refine step hF (Y.pick_f hF rfl hbv_3 rfl) rfl fun a hF => ?_
     exact nil (then_n ⟨hF.weak ⟨rfl, rfl, rfl, rfl, rfl, rfl, rfl, rfl, (by rw [hbv_3]; rfl), trivial⟩, hS.weak ⟨rfl, rfl, rfl, rfl, trivial⟩⟩)
   intro a w hF hS
   refine step hF (Y.move hF rfl) rfl fun a hF => ?_
   refine join (N := 184) (rs := []) (w0 := w0) (D0 := D0) 4 (us := [(2, .pointer (some ⟨b, 0, none⟩)), (4, .bool false), (5, .int .i64 rv_2), (6, .int .i64 rv_3), (7, .int .i64 rv_4), (8, .int .i64 rv_5), (9, .pointer (some ⟨b_2, 0, none⟩)), (11, .pointer (some ⟨b_3, 0, none⟩)), (78, .bool (((rv_6.2 == rv_7.2) && (rv_6.2 == 22)) && ([rv_6.1.Low, rv_6.1.High] == [rv_7.1.Low, rv_7.1.High])))]) (ms := [(1, .cells b [.int .i64 c.Hours, .slice p c.Rates.length c_1, .slice p_1 c.Opens.length c_2, .slice p_2 c.Pairs.length c_3] 26), (2, .cells b_1 [.int .i64 n.a0, .int .i64 n.a1, .int .i64 n.a2, .int .i64 n.a3] 52), (3, .cells b_2 [.int .i64 rv_6.1.Low, .int .i64 rv_6.1.High] 34), (4, .cells b_3 [.int .i64 rv_7.1.Low, .int .i64 rv_7.1.High] 34)]) (D' := D0) ?_ ?_
   ·rcases bcases ((rv_6.2 == rv_7.2) && (rv_6.2 == 22)) with hbv_4 | hbv_4
    ·-- true
     refine guard_on hF rfl rfl hbv_4 ?_
     refine step hF (Y.loadNL 3 sz_34 hF rfl hS rfl rfl rfl) rfl fun a hF => ?_
     refine guard_on hF rfl rfl hbv_4 ?_
     refine step hF (Y.loadNL 4 sz_34 hF rfl hS rfl rfl rfl) rfl fun a hF => ?_
     refine guard_on hF rfl rfl hbv_4 ?_
     refine step hF (Y.eqst (fun w => eqT_34.equal (by decide) (l := [rv_6.1.Low, rv_6.1.High]) (m := [rv_7.1.Low, rv_7.1.High]) rfl rfl) (fun w => run_eqGuard_agg _ _ _ _ _ _ _ eg_34) hF rfl rfl) rfl fun a hF => ?_
     refine step hF (Y.pick_t hF rfl hbv_4 rfl) rfl fun a hF => ?_
     exact nil (then_n ⟨hF.weak ⟨rfl, rfl, rfl, rfl, rfl, rfl, rfl, rfl, (by rw [hbv_4]; rfl), trivial⟩, hS.weak ⟨rfl, rfl, rfl, rfl, trivial⟩⟩)
    ·-- false
     refine guard_off hF rfl rfl hbv_4 rfl fun a hF => ?_
     refine guard_off hF rfl rfl hbv_4 rfl fun a hF => ?_
     refine guard_off hF rfl rfl hbv_4 rfl fun a hF => ?_
     refine step hF (Y.pick_f hF rfl hbv_4 rfl) rfl fun a hF => ?_
     exact nil (then_n ⟨hF.weak ⟨rfl, rfl, rfl, rfl, rfl, rfl, rfl, rfl, (by rw [hbv_4]; rfl), trivial⟩, hS.weak ⟨rfl, rfl, rfl, rfl, trivial⟩⟩)
   intro a w hF hS
   refine step hF (Y.move hF rfl) rfl fun a hF => ?_
   obtain ⟨t, ht, h⟩ := bind_some h
   refine join (N := 184) (rs := []) (w0 := w0) (D0 := D0) 2 (us := [(2, .pointer (some ⟨b, 0, none⟩)), (4, .bool false), (5, .int .i64 rv_2), (6, .int .i64 rv_3), (7, .int .i64 rv_4), (8, .int .i64 rv_5), (9, .pointer (some ⟨b_2, 0, none⟩)), (11, .pointer (some ⟨b_3, 0, none⟩)), (81, .bool t)]) (ms := [(1, .cells b [.int .i64 c.Hours, .slice p c.Rates.length c_1, .slice p_1 c.Opens.length c_2, .slice p_2 c.Pairs.length c_3] 26), (2, .cells b_1 [.int .i64 n.a0, .int .i64 n.a1, .int .i64 n.a2, .int .i64 n.a3] 52), (3, .cells b_2 [.int .i64 rv_6.1.Low, .int .i64 rv_6.1.High] 34), (4, .cells b_3 [.int .i64 rv_7.1.Low, .int .i64 rv_7.1.High] 34)]) (D' := D0) ?_ ?_
   ·rcases bcases (((rv_6.2 == rv_7.2) && (rv_6.2 == 22)) && ([rv_6.1.Low, rv_6.1.High] == [rv_7.1.Low, rv_7.1.High])) with hbv_5 | hbv_5
    ·-- true
     replace h := cond_t ht hbv_5
     refine guard_on hF rfl rfl hbv_5 ?_
     obtain ⟨rv_8, hx_8, h⟩ := bind_some h
     refine O.callP (us := []) ca_21 hF hS (remontoirlaw02_works_ok hS.stab hG rv_8 hx_8) rfl rfl fun a w hF hS => ?_
     refine step hF (Y.pick_t hF rfl hbv_5 rfl) rfl fun a hF => ?_
     obtain rfl := some_inj h
     exact nil (then_n ⟨hF.weak ⟨rfl, rfl, rfl, rfl, rfl, rfl, rfl, rfl, rfl, trivial⟩, hS.weak ⟨rfl, rfl, rfl, rfl, trivial⟩⟩)
    ·-- false
     replace h := cond_f ht hbv_5
     refine guard_off hF rfl rfl hbv_5 rfl fun a hF => ?_
     refine step hF (Y.pick_f hF rfl hbv_5 rfl) rfl fun a hF => ?_
     obtain rfl := some_inj h
     exact nil (then_n ⟨hF.weak ⟨rfl, rfl, rfl, rfl, rfl, rfl, rfl, rfl, rfl, trivial⟩, hS.weak ⟨rfl, rfl, rfl, rfl, trivial⟩⟩)
   intro a w hF hS
   refine step hF (Y.assign hF rfl) rfl fun a hF => ?_
   refine nil (then_n ?_)
   refine ret_ (then_r ?_)
   obtain rfl := some_inj h
   exact leaveP Tryd.results8 hF hS (.cons (.tmp rfl) .nil) .nil rfl
  ·replace h := cond_f h hbv_2
   refine skip_ (then_n ?_)
   refine seq ?_
   refine seq ?_
   refine region ?_
   refine step hF (Y.assign hF rfl) rfl fun a hF => ?_
   refine nil (then_n ?_)
   refine block ?_
   refine loop_cut (body := remontoirlaw02_BeatEnds_b1 c rv_2 rv_3 rv_4 rv_5 rv_6 rv_7) (out := out) (fun s a w => ∃ (v4_0 : Bool) (m : Int), ∃ (Dv : Stab), s = (v4_0, m) ∧ D0.le Dv ∧ Frm 184 [] [(2, .pointer (some ⟨b, 0, none⟩)), (4, .bool v4_0), (5, .int .i64 rv_2), (6, .int .i64 rv_3), (7, .int .i64 rv_4), (8, .int .i64 rv_5), (9, .pointer (some ⟨b_2, 0, none⟩)), (11, .pointer (some ⟨b_3, 0, none⟩)), (13, .int .i64 m)] a ∧ St w0 D0 Dv [(1, .cells b [.int .i64 c.Hours, .slice p c.Rates.length c_1, .slice p_1 c.Opens.length c_2, .slice p_2 c.Pairs.length c_3] 26), (2, .cells b_1 [.int .i64 n.a0, .int .i64 n.a1, .int .i64 n.a2, .int .i64 n.a3] 52), (3, .cells b_2 [.int .i64 rv_6.1.Low, .int .i64 rv_6.1.High] 34), (4, .cells b_3 [.int .i64 rv_7.1.Low, .int .i64 rv_7.1.High] 34)] w) (false, 0) h ⟨false, 0, D0, rfl, Stab.le.refl _, hF.weak ⟨rfl, rfl, rfl, rfl, rfl, rfl, rfl, rfl, rfl, trivial⟩, hS.weak ⟨rfl, rfl, rfl, rfl, trivial⟩⟩ ?_
   rintro s a w xo ⟨v4_0, m, Dv, rfl, hlev, hF, hS⟩ h hxo
   unfold remontoirlaw02_BeatEnds_b1 at h
   dsimp only at h
   replace hs := hs.mono hlev
   replace hs_1 := hs_1.mono hlev
   replace hs_2 := hs_2.mono hlev
   replace hG := hG.mono hlev
   refine seq ?_
   refine seq ?_
   refine region ?_
   refine step hF (Y.move hF rfl) rfl fun a hF => ?_
   refine step hF (Y.lss hF rfl rfl) rfl fun a hF => ?_
   refine nil (then_n ?_)
   refine cond_b hF rfl (fun hbv_6 => ?_) (fun hbv_6 => ?_)
   ·replace h := cond_t h hbv_6
    refine skip_ (then_n ?_)
    refine seq ?_
    refine block ?_
    refine seq ?_
    refine region ?_
    refine step hF (Y.loadNL 1 sz_26 hF rfl hS rfl rfl rfl) rfl fun a hF => ?_
    refine step hF (Y.move hF rfl) rfl fun a hF => ?_
    refine step hF (Y.move hF rfl) rfl fun a hF => ?_
    refine step hF (Y.move hF rfl) rfl fun a hF => ?_
    refine step hF (Y.eql hF rfl rfl) rfl fun a hF => ?_
    obtain ⟨rv_9, hx_9, h⟩ := bind_some h
    refine O.callS (us := [.agg #[.int .i64 c.Hours, .slice p c.Rates.length c_1, .slice p_1 c.Opens.length c_2, .slice p_2 c.Pairs.length c_3], .int .i64 rv_2, .int .i64 rv_4, .bool (m == 1)]) ca_26 hF hS (beat_Case_ok hS.stab c rv_2 rv_4 (m == 1) hs hs_1 hs_2 hG rv_9 hx_9) rfl rfl fun v Dv_1 a w hR hlev_1 hF hS => ?_
    replace hs := hs.mono hlev_1
    replace hs_1 := hs_1.mono hlev_1
    replace hs_2 := hs_2.mono hlev_1
    replace hG := hG.mono hlev_1
    obtain ⟨p_3, c_4, rfl, hs_3⟩ := hR
    refine step hF (Y.move hF rfl) rfl fun a hF => ?_
    refine step hF (Y.extract hF rfl rfl) rfl fun a hF => ?_
    refine step hF (Y.extract hF rfl rfl) rfl fun a hF => ?_
    refine step hF (Y.assign hF rfl) rfl fun a hF => ?_
    refine step hF (Y.assign hF rfl) rfl fun a hF => ?_
    refine nil (then_n ?_)
    refine seq ?_
    refine region ?_
    refine step hF (Y.loadNL 1 sz_26 hF rfl hS rfl rfl rfl) rfl fun a hF => ?_
    refine step hF (Y.move hF rfl) rfl fun a hF => ?_
    obtain ⟨rv_10, hx_10, h⟩ := bind_some h
    refine O.callP (us := [.agg #[.int .i64 c.Hours, .slice p c.Rates.length c_1, .slice p_1 c.Opens.length c_2, .slice p_2 c.Pairs.length c_3], .slice p_3 rv_9.1.length c_4]) ca_15 hF hS (beat_IsTruth_ok hS.stab c rv_9.1 hs hs_1 hs_2 hs_3 hG rv_10 hx_10) rfl rfl fun a w hF hS => ?_
    refine step hF (Y.move hF rfl) rfl fun a hF => ?_
    refine step hF (Y.extract hF rfl rfl) rfl fun a hF => ?_
    refine step hF (Y.extract hF rfl rfl) rfl fun a hF => ?_
    refine step hF (Y.assign hF rfl) rfl fun a hF => ?_
    refine step hF (Y.assign hF rfl) rfl fun a hF => ?_
    refine nil (then_n ?_)
    refine seq ?_
    refine seq ?_
    obtain ⟨t_1, ht_1, h⟩ := bind_some h
    obtain ⟨t_2, ht_2, h⟩ := bind_some h
    obtain ⟨t_3, ht_3, h⟩ := bind_some h
    obtain ⟨t_4, ht_4, h⟩ := bind_some h
    obtain ⟨t_5, ht_5, h⟩ := bind_some h
    obtain ⟨t_6, ht_6, h⟩ := bind_some h
    refine drawsV 52 (.flt 0 (.flt 1 (.flt 2 (.flt 3 (.flt 4 (.flt 5 (.flt 6 (.flt 7 (.flt 8 (.flt 9 (.flt 10 (.flt 11 (.flt 12 (.flt 13 (.flt 14 (.flt 15 (.flt 16 (.flt 17 (.flt 18 (.flt 19 (.flt 20 (.flt 21 (.flt 22 (.flt 23 (.flt 24 (.flt 25 (.flt 26 (.flt 27 (.flt 28 (.flt 29 (.flt 30 (.flt 31 (.flt 32 (.flt 33 (.flt 34 (.flt 35 (.flt 36 (.flt 37 (.flt 38 (.flt 39 (.flt 40 (.flt 41 (.flt 42 (.flt 43 (.flt 44 (.flt 45 (.flt 46 (.flt 47 (.flt 48 (.alt 49 (.flt 50 (.flt 51 .done)) .stop)))))))))))))))))))))))))))))))))))))))))))))))))) mixed_ (by kernel_rfl) (fun w => St w0 D0 Dv_1 [(1, .cells b [.int .i64 c.Hours, .slice p c.Rates.length c_1, .slice p_1 c.Opens.length c_2, .slice p_2 c.Pairs.length c_3] 26), (2, .cells b_1 [.int .i64 n.a0, .int .i64 n.a1, .int .i64 n.a2, .int .i64 n.a3] 52), (3, .cells b_2 [.int .i64 rv_6.1.Low, .int .i64 rv_6.1.High] 34), (4, .cells b_3 [.int .i64 rv_7.1.Low, .int .i64 rv_7.1.High] 34)] w) (fun a w => Frm 184 [] [(2, .pointer (some ⟨b, 0, none⟩)), (4, .bool v4_0), (5, .int .i64 rv_2), (6, .int .i64 rv_3), (7, .int .i64 rv_4), (8, .int .i64 rv_5), (9, .pointer (some ⟨b_2, 0, none⟩)), (11, .pointer (some ⟨b_3, 0, none⟩)), (13, .int .i64 m), (14, .slice p_3 rv_9.1.length c_4), (152, .bool t_6)] a ∧ St w0 D0 Dv_1 [(1, .cells b [.int .i64 c.Hours, .slice p c.Rates.length c_1, .slice p_1 c.Opens.length c_2, .slice p_2 c.Pairs.length c_3] 26), (2, .cells b_1 [.int .i64 n.a0, .int .i64 n.a1, .int .i64 n.a2, .int .i64 n.a3] 52), (3, .cells b_2 [.int .i64 rv_6.1.Low, .int .i64 rv_6.1.High] 34), (4, .cells b_3 [.int .i64 rv_7.1.Low, .int .i64 rv_7.1.High] 34)] w) (hS.weak (ms := [(1, .cells b [.int .i64 c.Hours, .slice p c.Rates.length c_1, .slice p_1 c.Opens.length c_2, .slice p_2 c.Pairs.length c_3] 26), (2, .cells b_1 [.int .i64 n.a0, .int .i64 n.a1, .int .i64 n.a2, .int .i64 n.a3] 52), (3, .cells b_2 [.int .i64 rv_6.1.Low, .int .i64 rv_6.1.High] 34), (4, .cells b_3 [.int .i64 rv_7.1.Low, .int .i64 rv_7.1.High] 34)]) ⟨rfl, rfl, rfl, rfl, trivial⟩).drew (fun _ _ _ _ h => h) ?_ ?_
    ·replace hS := hS.drew
     have hle0 := hS.le
     rcases bcases (rv_9.2 != 0) with hbv_7 | hbv_7
     ·skip
      replace ht_1 := cond_t ht_1 hbv_7
      obtain rfl := some_inj ht_1
      replace ht_2 := cond_t ht_2 rfl
      obtain rfl := some_inj ht_2
      replace ht_3 := cond_t ht_3 rfl
      obtain rfl := some_inj ht_3
      replace ht_4 := cond_t ht_4 rfl
      obtain rfl := some_inj ht_4
      replace ht_5 := cond_t ht_5 rfl
      obtain rfl := some_inj ht_5
      replace ht_6 := cond_t ht_6 rfl
      obtain rfl := some_inj ht_6
      refine stepV (i := 0) rfl hF (fun w hS => Y.move hF rfl) rfl fun a hF => ?_
      refine stepV (i := 1) rfl hF (fun w hS => Y.neq hF rfl rfl) rfl fun a hF => ?_
      refine stepV (i := 2) rfl hF (fun w hS => Y.move hF rfl) rfl fun a hF => ?_
      refine stepV_off (i := 3) rfl hF rfl rfl hbv_7 rfl fun a hF => ?_
      refine stepV_off (i := 4) rfl hF rfl rfl hbv_7 rfl fun a hF => ?_
      refine stepV (i := 5) rfl hF (fun w hS => Y.pick_t hF rfl hbv_7 rfl) rfl fun a hF => ?_
      refine stepV (i := 6) rfl hF (fun w hS => Y.move hF rfl) rfl fun a hF => ?_
      refine stepV_off (i := 7) rfl hF rfl rfl rfl rfl fun a hF => ?_
      refine stepV_off (i := 8) rfl hF rfl rfl rfl rfl fun a hF => ?_
      refine stepV (i := 9) rfl hF (fun w hS => Y.pick_t hF rfl rfl rfl) rfl fun a hF => ?_
      refine stepV (i := 10) rfl hF (fun w hS => Y.move hF rfl) rfl fun a hF => ?_
      refine stepV_off (i := 11) rfl hF rfl rfl rfl rfl fun a hF => ?_
      refine stepV_off (i := 12) rfl hF rfl rfl rfl rfl fun a hF => ?_
      refine stepV_off (i := 13) rfl hF rfl rfl rfl rfl fun a hF => ?_
      refine stepV_off (i := 14) rfl hF rfl rfl rfl rfl fun a hF => ?_
      refine stepV_off (i := 15) rfl hF rfl rfl rfl rfl fun a hF => ?_
      refine stepV_off (i := 16) rfl hF rfl rfl rfl rfl fun a hF => ?_
      refine stepV (i := 17) rfl hF (fun w hS => Y.pick_t hF rfl rfl rfl) rfl fun a hF => ?_
      refine stepV (i := 18) rfl hF (fun w hS => Y.move hF rfl) rfl fun a hF => ?_
      refine stepV_off (i := 19) rfl hF rfl rfl rfl rfl fun a hF => ?_
      refine stepV_off (i := 20) rfl hF rfl rfl rfl rfl fun a hF => ?_
      refine stepV_off (i := 21) rfl hF rfl rfl rfl rfl fun a hF => ?_
      refine stepV_off (i := 22) rfl hF rfl rfl rfl rfl fun a hF => ?_
      refine stepV_off (i := 23) rfl hF rfl rfl rfl rfl fun a hF => ?_
      refine stepV_off (i := 24) rfl hF rfl rfl rfl rfl fun a hF => ?_
      refine stepV_off (i := 25) rfl hF rfl rfl rfl rfl fun a hF => ?_
      refine stepV_off (i := 26) rfl hF rfl rfl rfl rfl fun a hF => ?_
      refine stepV_off (i := 27) rfl hF rfl rfl rfl rfl fun a hF => ?_
      refine stepV (i := 28) rfl hF (fun w hS => Y.pick_t hF rfl rfl rfl) rfl fun a hF => ?_
      refine stepV (i := 29) rfl hF (fun w hS => Y.move hF rfl) rfl fun a hF => ?_
      refine stepV_off (i := 30) rfl hF rfl rfl rfl rfl fun a hF => ?_
      refine stepV_off (i := 31) rfl hF rfl rfl rfl rfl fun a hF => ?_
      refine stepV_off (i := 32) rfl hF rfl rfl rfl rfl fun a hF => ?_
      refine stepV_off (i := 33) rfl hF rfl rfl rfl rfl fun a hF => ?_
      refine stepV_off (i := 34) rfl hF rfl rfl rfl rfl fun a hF => ?_
      refine stepV_off (i := 35) rfl hF rfl rfl rfl rfl fun a hF => ?_
      refine stepV_off (i := 36) rfl hF rfl rfl rfl rfl fun a hF => ?_
      refine stepV_off (i := 37) rfl hF rfl rfl rfl rfl fun a hF => ?_
      refine stepV_off (i := 38) rfl hF rfl rfl rfl rfl fun a hF => ?_
      refine stepV (i := 39) rfl hF (fun w hS => Y.pick_t hF rfl rfl rfl) rfl fun a hF => ?_
      refine stepV (i := 40) rfl hF (fun w hS => Y.move hF rfl) rfl fun a hF => ?_
      refine stepV_off (i := 41) rfl hF rfl rfl rfl rfl fun a hF => ?_
      refine stepV_off (i := 42) rfl hF rfl rfl rfl rfl fun a hF => ?_
      refine stepV_off (i := 43) rfl hF rfl rfl rfl rfl fun a hF => ?_
      refine stepV_off (i := 44) rfl hF rfl rfl rfl rfl fun a hF => ?_
      refine stepV_off (i := 45) rfl hF rfl rfl rfl rfl fun a hF => ?_
      refine stepV_off (i := 46) rfl hF rfl rfl rfl rfl fun a hF => ?_
      refine stepV_off (i := 47) rfl hF rfl rfl rfl rfl fun a hF => ?_
      refine stepV_off (i := 48) rfl hF rfl rfl rfl rfl fun a hF => ?_
      refine oneV (i := 49) rfl ?_ trivial
      refine guard_off hF rfl rfl rfl rfl fun a hF => nil (then_n ⟨hS.weak (ms := [(1, .cells b [.int .i64 c.Hours, .slice p c.Rates.length c_1, .slice p_1 c.Opens.length c_2, .slice p_2 c.Pairs.length c_3] 26), (2, .cells b_1 [.int .i64 n.a0, .int .i64 n.a1, .int .i64 n.a2, .int .i64 n.a3] 52), (3, .cells b_2 [.int .i64 rv_6.1.Low, .int .i64 rv_6.1.High] 34), (4, .cells b_3 [.int .i64 rv_7.1.Low, .int .i64 rv_7.1.High] 34)]) ⟨rfl, rfl, rfl, rfl, trivial⟩, ?_⟩)
      refine stepV_off (i := 50) rfl hF rfl rfl rfl rfl fun a hF => ?_
      refine stepV (i := 51) rfl hF (fun w hS => Y.pick_t hF rfl rfl rfl) rfl fun a hF => ?_
      exact toTailV ⟨hF.weak ⟨rfl, rfl, rfl, rfl, rfl, rfl, rfl, rfl, rfl, rfl, rfl, trivial⟩, hS.weak ⟨rfl, rfl, rfl, rfl, trivial⟩⟩
     ·skip
      replace ht_1 := cond_f ht_1 hbv_7
      obtain rfl := some_inj ht_1
      rcases bcases (rv_10.2 != 0) with hbv_8 | hbv_8
      ·skip
       replace ht_2 := cond_t ht_2 hbv_8
       obtain rfl := some_inj ht_2
       replace ht_3 := cond_t ht_3 rfl
       obtain rfl := some_inj ht_3
       replace ht_4 := cond_t ht_4 rfl
       obtain rfl := some_inj ht_4
       replace ht_5 := cond_t ht_5 rfl
       obtain rfl := some_inj ht_5
       replace ht_6 := cond_t ht_6 rfl
       obtain rfl := some_inj ht_6
       refine stepV (i := 0) rfl hF (fun w hS => Y.move hF rfl) rfl fun a hF => ?_
       refine stepV (i := 1) rfl hF (fun w hS => Y.neq hF rfl rfl) rfl fun a hF => ?_
       refine stepV (i := 2) rfl hF (fun w hS => Y.move hF rfl) rfl fun a hF => ?_
       refine stepV_on (i := 3) rfl hF rfl rfl hbv_7 (fun w hS => Y.move hF rfl) rfl fun a hF => ?_
       refine stepV_on (i := 4) rfl hF rfl rfl hbv_7 (fun w hS => Y.neq hF rfl rfl) rfl fun a hF => ?_
       refine stepV (i := 5) rfl hF (fun w hS => Y.pick_f hF rfl hbv_7 rfl) rfl fun a hF => ?_
       refine stepV (i := 6) rfl hF (fun w hS => Y.move hF rfl) rfl fun a hF => ?_
       refine stepV_off (i := 7) rfl hF rfl rfl hbv_8 rfl fun a hF => ?_
       refine stepV_off (i := 8) rfl hF rfl rfl hbv_8 rfl fun a hF => ?_
       refine stepV (i := 9) rfl hF (fun w hS => Y.pick_t hF rfl hbv_8 rfl) rfl fun a hF => ?_
       refine stepV (i := 10) rfl hF (fun w hS => Y.move hF rfl) rfl fun a hF => ?_
       refine stepV_off (i := 11) rfl hF rfl rfl rfl rfl fun a hF => ?_
       refine stepV_off (i := 12) rfl hF rfl rfl rfl rfl fun a hF => ?_
       refine stepV_off (i := 13) rfl hF rfl rfl rfl rfl fun a hF => ?_
       refine stepV_off (i := 14) rfl hF rfl rfl rfl rfl fun a hF => ?_
       refine stepV_off (i := 15) rfl hF rfl rfl rfl rfl fun a hF => ?_
       refine stepV_off (i := 16) rfl hF rfl rfl rfl rfl fun a hF => ?_
       refine stepV (i := 17) rfl hF (fun w hS => Y.pick_t hF rfl rfl rfl) rfl fun a hF => ?_
       refine stepV (i := 18) rfl hF (fun w hS => Y.move hF rfl) rfl fun a hF => ?_
       refine stepV_off (i := 19) rfl hF rfl rfl rfl rfl fun a hF => ?_
       refine stepV_off (i := 20) rfl hF rfl rfl rfl rfl fun a hF => ?_
       refine stepV_off (i := 21) rfl hF rfl rfl rfl rfl fun a hF => ?_
       refine stepV_off (i := 22) rfl hF rfl rfl rfl rfl fun a hF => ?_
       refine stepV_off (i := 23) rfl hF rfl rfl rfl rfl fun a hF => ?_
       refine stepV_off (i := 24) rfl hF rfl rfl rfl rfl fun a hF => ?_
       refine stepV_off (i := 25) rfl hF rfl rfl rfl rfl fun a hF => ?_
       refine stepV_off (i := 26) rfl hF rfl rfl rfl rfl fun a hF => ?_
       refine stepV_off (i := 27) rfl hF rfl rfl rfl rfl fun a hF => ?_
       refine stepV (i := 28) rfl hF (fun w hS => Y.pick_t hF rfl rfl rfl) rfl fun a hF => ?_
       refine stepV (i := 29) rfl hF (fun w hS => Y.move hF rfl) rfl fun a hF => ?_
       refine stepV_off (i := 30) rfl hF rfl rfl rfl rfl fun a hF => ?_
       refine stepV_off (i := 31) rfl hF rfl rfl rfl rfl fun a hF => ?_
       refine stepV_off (i := 32) rfl hF rfl rfl rfl rfl fun a hF => ?_
       refine stepV_off (i := 33) rfl hF rfl rfl rfl rfl fun a hF => ?_
       refine stepV_off (i := 34) rfl hF rfl rfl rfl rfl fun a hF => ?_
       refine stepV_off (i := 35) rfl hF rfl rfl rfl rfl fun a hF => ?_
       refine stepV_off (i := 36) rfl hF rfl rfl rfl rfl fun a hF => ?_
       refine stepV_off (i := 37) rfl hF rfl rfl rfl rfl fun a hF => ?_
       refine stepV_off (i := 38) rfl hF rfl rfl rfl rfl fun a hF => ?_
       refine stepV (i := 39) rfl hF (fun w hS => Y.pick_t hF rfl rfl rfl) rfl fun a hF => ?_
       refine stepV (i := 40) rfl hF (fun w hS => Y.move hF rfl) rfl fun a hF => ?_
       refine stepV_off (i := 41) rfl hF rfl rfl rfl rfl fun a hF => ?_
       refine stepV_off (i := 42) rfl hF rfl rfl rfl rfl fun a hF => ?_
       refine stepV_off (i := 43) rfl hF rfl rfl rfl rfl fun a hF => ?_
       refine stepV_off (i := 44) rfl hF rfl rfl rfl rfl fun a hF => ?_
       refine stepV_off (i := 45) rfl hF rfl rfl rfl rfl fun a hF => ?_
       refine stepV_off (i := 46) rfl hF rfl rfl rfl rfl fun a hF => ?_
       refine stepV_off (i := 47) rfl hF rfl rfl rfl rfl fun a hF => ?_
       refine stepV_off (i := 48) rfl hF rfl rfl rfl rfl fun a hF => ?_
       refine oneV (i := 49) rfl ?_ trivial
       refine guard_off hF rfl rfl rfl rfl fun a hF => nil (then_n ⟨hS.weak (ms := [(1, .cells b [.int .i64 c.Hours, .slice p c.Rates.length c_1, .slice p_1 c.Opens.length c_2, .slice p_2 c.Pairs.length c_3] 26), (2, .cells b_1 [.int .i64 n.a0, .int .i64 n.a1, .int .i64 n.a2, .int .i64 n.a3] 52), (3, .cells b_2 [.int .i64 rv_6.1.Low, .int .i64 rv_6.1.High] 34), (4, .cells b_3 [.int .i64 rv_7.1.Low, .int .i64 rv_7.1.High] 34)]) ⟨rfl, rfl, rfl, rfl, trivial⟩, ?_⟩)
       refine stepV_off (i := 50) rfl hF rfl rfl rfl rfl fun a hF => ?_
       refine stepV (i := 51) rfl hF (fun w hS => Y.pick_t hF rfl rfl rfl) rfl fun a hF => ?_
       exact toTailV ⟨hF.weak ⟨rfl, rfl, rfl, rfl, rfl, rfl, rfl, rfl, rfl, rfl, rfl, trivial⟩, hS.weak ⟨rfl, rfl, rfl, rfl, trivial⟩⟩
      ·skip
       replace ht_2 := cond_f ht_2 hbv_8
       obtain rfl := some_inj ht_2
       rcases bcases (!rv_10.1) with hbv_9 | hbv_9
       ·skip
        replace ht_3 := cond_t ht_3 hbv_9
        obtain rfl := some_inj ht_3
        replace ht_4 := cond_t ht_4 rfl
        obtain rfl := some_inj ht_4
        replace ht_5 := cond_t ht_5 rfl
        obtain rfl := some_inj ht_5
        replace ht_6 := cond_t ht_6 rfl
        obtain rfl := some_inj ht_6
        refine stepV (i := 0) rfl hF (fun w hS => Y.move hF rfl) rfl fun a hF => ?_
        refine stepV (i := 1) rfl hF (fun w hS => Y.neq hF rfl rfl) rfl fun a hF => ?_
        refine stepV (i := 2) rfl hF (fun w hS => Y.move hF rfl) rfl fun a hF => ?_
        refine stepV_on (i := 3) rfl hF rfl rfl hbv_7 (fun w hS => Y.move hF rfl) rfl fun a hF => ?_
        refine stepV_on (i := 4) rfl hF rfl rfl hbv_7 (fun w hS => Y.neq hF rfl rfl) rfl fun a hF => ?_
        refine stepV (i := 5) rfl hF (fun w hS => Y.pick_f hF rfl hbv_7 rfl) rfl fun a hF => ?_
        refine stepV (i := 6) rfl hF (fun w hS => Y.move hF rfl) rfl fun a hF => ?_
        refine stepV_on (i := 7) rfl hF rfl rfl hbv_8 (fun w hS => Y.move hF rfl) rfl fun a hF => ?_
        refine stepV_on (i := 8) rfl hF rfl rfl hbv_8 (fun w hS => Y.not hF rfl) rfl fun a hF => ?_
        refine stepV (i := 9) rfl hF (fun w hS => Y.pick_f hF rfl hbv_8 rfl) rfl fun a hF => ?_
        refine stepV (i := 10) rfl hF (fun w hS => Y.move hF rfl) rfl fun a hF => ?_
        refine stepV_off (i := 11) rfl hF rfl rfl hbv_9 rfl fun a hF => ?_
        refine stepV_off (i := 12) rfl hF rfl rfl hbv_9 rfl fun a hF => ?_
        refine stepV_off (i := 13) rfl hF rfl rfl hbv_9 rfl fun a hF => ?_
        refine stepV_off (i := 14) rfl hF rfl rfl hbv_9 rfl fun a hF => ?_
        refine stepV_off (i := 15) rfl hF rfl rfl hbv_9 rfl fun a hF => ?_
        refine stepV_off (i := 16) rfl hF rfl rfl hbv_9 rfl fun a hF => ?_
        refine stepV (i := 17) rfl hF (fun w hS => Y.pick_t hF rfl hbv_9 rfl) rfl fun a hF => ?_
        refine stepV (i := 18) rfl hF (fun w hS => Y.move hF rfl) rfl fun a hF => ?_
        refine stepV_off (i := 19) rfl hF rfl rfl rfl rfl fun a hF => ?_
        refine stepV_off (i := 20) rfl hF rfl rfl rfl rfl fun a hF => ?_
        refine stepV_off (i := 21) rfl hF rfl rfl rfl rfl fun a hF => ?_
        refine stepV_off (i := 22) rfl hF rfl rfl rfl rfl fun a hF => ?_
        refine stepV_off (i := 23) rfl hF rfl rfl rfl rfl fun a hF => ?_
        refine stepV_off (i := 24) rfl hF rfl rfl rfl rfl fun a hF => ?_
        refine stepV_off (i := 25) rfl hF rfl rfl rfl rfl fun a hF => ?_
        refine stepV_off (i := 26) rfl hF rfl rfl rfl rfl fun a hF => ?_
        refine stepV_off (i := 27) rfl hF rfl rfl rfl rfl fun a hF => ?_
        refine stepV (i := 28) rfl hF (fun w hS => Y.pick_t hF rfl rfl rfl) rfl fun a hF => ?_
        refine stepV (i := 29) rfl hF (fun w hS => Y.move hF rfl) rfl fun a hF => ?_
        refine stepV_off (i := 30) rfl hF rfl rfl rfl rfl fun a hF => ?_
        refine stepV_off (i := 31) rfl hF rfl rfl rfl rfl fun a hF => ?_
        refine stepV_off (i := 32) rfl hF rfl rfl rfl rfl fun a hF => ?_
        refine stepV_off (i := 33) rfl hF rfl rfl rfl rfl fun a hF => ?_
        refine stepV_off (i := 34) rfl hF rfl rfl rfl rfl fun a hF => ?_
        refine stepV_off (i := 35) rfl hF rfl rfl rfl rfl fun a hF => ?_
        refine stepV_off (i := 36) rfl hF rfl rfl rfl rfl fun a hF => ?_
        refine stepV_off (i := 37) rfl hF rfl rfl rfl rfl fun a hF => ?_
        refine stepV_off (i := 38) rfl hF rfl rfl rfl rfl fun a hF => ?_
        refine stepV (i := 39) rfl hF (fun w hS => Y.pick_t hF rfl rfl rfl) rfl fun a hF => ?_
        refine stepV (i := 40) rfl hF (fun w hS => Y.move hF rfl) rfl fun a hF => ?_
        refine stepV_off (i := 41) rfl hF rfl rfl rfl rfl fun a hF => ?_
        refine stepV_off (i := 42) rfl hF rfl rfl rfl rfl fun a hF => ?_
        refine stepV_off (i := 43) rfl hF rfl rfl rfl rfl fun a hF => ?_
        refine stepV_off (i := 44) rfl hF rfl rfl rfl rfl fun a hF => ?_
        refine stepV_off (i := 45) rfl hF rfl rfl rfl rfl fun a hF => ?_
        refine stepV_off (i := 46) rfl hF rfl rfl rfl rfl fun a hF => ?_
        refine stepV_off (i := 47) rfl hF rfl rfl rfl rfl fun a hF => ?_
        refine stepV_off (i := 48) rfl hF rfl rfl rfl rfl fun a hF => ?_
        refine oneV (i := 49) rfl ?_ trivial
        refine guard_off hF rfl rfl rfl rfl fun a hF => nil (then_n ⟨hS.weak (ms := [(1, .cells b [.int .i64 c.Hours, .slice p c.Rates.length c_1, .slice p_1 c.Opens.length c_2, .slice p_2 c.Pairs.length c_3] 26), (2, .cells b_1 [.int .i64 n.a0, .int .i64 n.a1, .int .i64 n.a2, .int .i64 n.a3] 52), (3, .cells b_2 [.int .i64 rv_6.1.Low, .int .i64 rv_6.1.High] 34), (4, .cells b_3 [.int .i64 rv_7.1.Low, .int .i64 rv_7.1.High] 34)]) ⟨rfl, rfl, rfl, rfl, trivial⟩, ?_⟩)
        refine stepV_off (i := 50) rfl hF rfl rfl rfl rfl fun a hF => ?_
        refine stepV (i := 51) rfl hF (fun w hS => Y.pick_t hF rfl rfl rfl) rfl fun a hF => ?_
        exact toTailV ⟨hF.weak ⟨rfl, rfl, rfl, rfl, rfl, rfl, rfl, rfl, rfl, rfl, rfl, trivial⟩, hS.weak ⟨rfl, rfl, rfl, rfl, trivial⟩⟩
       ·skip
        replace ht_3 := cond_f ht_3 hbv_9
        obtain rfl := some_inj ht_3
        rcases bcases ((rv_9.1.length : Int) != (c.Rates.length : Int)) with hbv_10 | hbv_10
        ·skip
         replace ht_4 := cond_t ht_4 hbv_10
         obtain rfl := some_inj ht_4
         replace ht_5 := cond_t ht_5 rfl
         obtain rfl := some_inj ht_5
         replace ht_6 := cond_t ht_6 rfl
         obtain rfl := some_inj ht_6
         refine stepV (i := 0) rfl hF (fun w hS => Y.move hF rfl) rfl fun a hF => ?_
         refine stepV (i := 1) rfl hF (fun w hS => Y.neq hF rfl rfl) rfl fun a hF => ?_
         refine stepV (i := 2) rfl hF (fun w hS => Y.move hF rfl) rfl fun a hF => ?_
         refine stepV_on (i := 3) rfl hF rfl rfl hbv_7 (fun w hS => Y.move hF rfl) rfl fun a hF => ?_
         refine stepV_on (i := 4) rfl hF rfl rfl hbv_7 (fun w hS => Y.neq hF rfl rfl) rfl fun a hF => ?_
         refine stepV (i := 5) rfl hF (fun w hS => Y.pick_f hF rfl hbv_7 rfl) rfl fun a hF => ?_
         refine stepV (i := 6) rfl hF (fun w hS => Y.move hF rfl) rfl fun a hF => ?_
         refine stepV_on (i := 7) rfl hF rfl rfl hbv_8 (fun w hS => Y.move hF rfl) rfl fun a hF => ?_
         refine stepV_on (i := 8) rfl hF rfl rfl hbv_8 (fun w hS => Y.not hF rfl) rfl fun a hF => ?_
         refine stepV (i := 9) rfl hF (fun w hS => Y.pick_f hF rfl hbv_8 rfl) rfl fun a hF => ?_
         refine stepV (i := 10) rfl hF (fun w hS => Y.move hF rfl) rfl fun a hF => ?_
         refine stepV_on (i := 11) rfl hF rfl rfl hbv_9 (fun w hS => Y.move hF rfl) rfl fun a hF => ?_
         refine stepV_on (i := 12) rfl hF rfl rfl hbv_9 (fun w hS => Y.lenSl u_27 hF rfl) rfl fun a hF => ?_
         refine stepV_on (i := 13) rfl hF rfl rfl hbv_9 (fun w hS => Y.fieldAddr fo_26_1 hF rfl) rfl fun a hF => ?_
         refine stepV_on (i := 14) rfl hF rfl rfl hbv_9 (fun w hS => Y.load1L 1 sz_22 hF rfl hS rfl rfl) rfl fun a hF => ?_
         refine stepV_on (i := 15) rfl hF rfl rfl hbv_9 (fun w hS => Y.lenSl u_22 hF rfl) rfl fun a hF => ?_
         refine stepV_on (i := 16) rfl hF rfl rfl hbv_9 (fun w hS => Y.neq hF rfl rfl) rfl fun a hF => ?_
         refine stepV (i := 17) rfl hF (fun w hS => Y.pick_f hF rfl hbv_9 rfl) rfl fun a hF => ?_
         refine stepV (i := 18) rfl hF (fun w hS => Y.move hF rfl) rfl fun a hF => ?_
         refine stepV_off (i := 19) rfl hF rfl rfl hbv_10 rfl fun a hF => ?_
         refine stepV_off (i := 20) rfl hF rfl rfl hbv_10 rfl fun a hF => ?_
         refine stepV_off (i := 21) rfl hF rfl rfl hbv_10 rfl fun a hF => ?_
         refine stepV_off (i := 22) rfl hF rfl rfl hbv_10 rfl fun a hF => ?_
         refine stepV_off (i := 23) rfl hF rfl rfl hbv_10 rfl fun a hF => ?_
         refine stepV_off (i := 24) rfl hF rfl rfl hbv_10 rfl fun a hF => ?_
         refine stepV_off (i := 25) rfl hF rfl rfl hbv_10 rfl fun a hF => ?_
         refine stepV_off (i := 26) rfl hF rfl rfl hbv_10 rfl fun a hF => ?_
         refine stepV_off (i := 27) rfl hF rfl rfl hbv_10 rfl fun a hF => ?_
         refine stepV (i := 28) rfl hF (fun w hS => Y.pick_t hF rfl hbv_10 rfl) rfl fun a hF => ?_
         refine stepV (i := 29) rfl hF (fun w hS => Y.move hF rfl) rfl fun a hF => ?_
         refine stepV_off (i := 30) rfl hF rfl rfl rfl rfl fun a hF => ?_
         refine stepV_off (i := 31) rfl hF rfl rfl rfl rfl fun a hF => ?_
         refine stepV_off (i := 32) rfl hF rfl rfl rfl rfl fun a hF => ?_
         refine stepV_off (i := 33) rfl hF rfl rfl rfl rfl fun a hF => ?_
         refine stepV_off (i := 34) rfl hF rfl rfl rfl rfl fun a hF => ?_
         refine stepV_off (i := 35) rfl hF rfl rfl rfl rfl fun a hF => ?_
         refine stepV_off (i := 36) rfl hF rfl rfl rfl rfl fun a hF => ?_
         refine stepV_off (i := 37) rfl hF rfl rfl rfl rfl fun a hF => ?_
         refine stepV_off (i := 38) rfl hF rfl rfl rfl rfl fun a hF => ?_
         refine stepV (i := 39) rfl hF (fun w hS => Y.pick_t hF rfl rfl rfl) rfl fun a hF => ?_
         refine stepV (i := 40) rfl hF (fun w hS => Y.move hF rfl) rfl fun a hF => ?_
         refine stepV_off (i := 41) rfl hF rfl rfl rfl rfl fun a hF => ?_
         refine stepV_off (i := 42) rfl hF rfl rfl rfl rfl fun a hF => ?_
         refine stepV_off (i := 43) rfl hF rfl rfl rfl rfl fun a hF => ?_
         refine stepV_off (i := 44) rfl hF rfl rfl rfl rfl fun a hF => ?_
         refine stepV_off (i := 45) rfl hF rfl rfl rfl rfl fun a hF => ?_
         refine stepV_off (i := 46) rfl hF rfl rfl rfl rfl fun a hF => ?_
         refine stepV_off (i := 47) rfl hF rfl rfl rfl rfl fun a hF => ?_
         refine stepV_off (i := 48) rfl hF rfl rfl rfl rfl fun a hF => ?_
         refine oneV (i := 49) rfl ?_ trivial
         refine guard_off hF rfl rfl rfl rfl fun a hF => nil (then_n ⟨hS.weak (ms := [(1, .cells b [.int .i64 c.Hours, .slice p c.Rates.length c_1, .slice p_1 c.Opens.length c_2, .slice p_2 c.Pairs.length c_3] 26), (2, .cells b_1 [.int .i64 n.a0, .int .i64 n.a1, .int .i64 n.a2, .int .i64 n.a3] 52), (3, .cells b_2 [.int .i64 rv_6.1.Low, .int .i64 rv_6.1.High] 34), (4, .cells b_3 [.int .i64 rv_7.1.Low, .int .i64 rv_7.1.High] 34)]) ⟨rfl, rfl, rfl, rfl, trivial⟩, ?_⟩)
         refine stepV_off (i := 50) rfl hF rfl rfl rfl rfl fun a hF => ?_
         refine stepV (i := 51) rfl hF (fun w hS => Y.pick_t hF rfl rfl rfl) rfl fun a hF => ?_
         exact toTailV ⟨hF.weak ⟨rfl, rfl, rfl, rfl, rfl, rfl, rfl, rfl, rfl, rfl, rfl, trivial⟩, hS.weak ⟨rfl, rfl, rfl, rfl, trivial⟩⟩
        ·skip
         replace ht_4 := cond_f ht_4 hbv_10
         obtain ⟨e, hx_11, ht_4⟩ := bind_some ht_4
         obtain rfl := some_inj ht_4
         rcases bcases ((e.length : Int) != (wr (c.Hours + 1))) with hbv_11 | hbv_11
         ·skip
          replace ht_5 := cond_t ht_5 hbv_11
          obtain rfl := some_inj ht_5
          replace ht_6 := cond_t ht_6 rfl
          obtain rfl := some_inj ht_6
          refine stepV (i := 0) rfl hF (fun w hS => Y.move hF rfl) rfl fun a hF => ?_
          refine stepV (i := 1) rfl hF (fun w hS => Y.neq hF rfl rfl) rfl fun a hF => ?_
          refine stepV (i := 2) rfl hF (fun w hS => Y.move hF rfl) rfl fun a hF => ?_
          refine stepV_on (i := 3) rfl hF rfl rfl hbv_7 (fun w hS => Y.move hF rfl) rfl fun a hF => ?_
          refine stepV_on (i := 4) rfl hF rfl rfl hbv_7 (fun w hS => Y.neq hF rfl rfl) rfl fun a hF => ?_
          refine stepV (i := 5) rfl hF (fun w hS => Y.pick_f hF rfl hbv_7 rfl) rfl fun a hF => ?_
          refine stepV (i := 6) rfl hF (fun w hS => Y.move hF rfl) rfl fun a hF => ?_
          refine stepV_on (i := 7) rfl hF rfl rfl hbv_8 (fun w hS => Y.move hF rfl) rfl fun a hF => ?_
          refine stepV_on (i := 8) rfl hF rfl rfl hbv_8 (fun w hS => Y.not hF rfl) rfl fun a hF => ?_
          refine stepV (i := 9) rfl hF (fun w hS => Y.pick_f hF rfl hbv_8 rfl) rfl fun a hF => ?_
          refine stepV (i := 10) rfl hF (fun w hS => Y.move hF rfl) rfl fun a hF => ?_
          refine stepV_on (i := 11) rfl hF rfl rfl hbv_9 (fun w hS => Y.move hF rfl) rfl fun a hF => ?_
          refine stepV_on (i := 12) rfl hF rfl rfl hbv_9 (fun w hS => Y.lenSl u_27 hF rfl) rfl fun a hF => ?_
          refine stepV_on (i := 13) rfl hF rfl rfl hbv_9 (fun w hS => Y.fieldAddr fo_26_1 hF rfl) rfl fun a hF => ?_
          refine stepV_on (i := 14) rfl hF rfl rfl hbv_9 (fun w hS => Y.load1L 1 sz_22 hF rfl hS rfl rfl) rfl fun a hF => ?_
          refine stepV_on (i := 15) rfl hF rfl rfl hbv_9 (fun w hS => Y.lenSl u_22 hF rfl) rfl fun a hF => ?_
          refine stepV_on (i := 16) rfl hF rfl rfl hbv_9 (fun w hS => Y.neq hF rfl rfl) rfl fun a hF => ?_
          refine stepV (i := 17) rfl hF (fun w hS => Y.pick_f hF rfl hbv_9 rfl) rfl fun a hF => ?_
          refine stepV (i := 18) rfl hF (fun w hS => Y.move hF rfl) rfl fun a hF => ?_
          refine stepV_on (i := 19) rfl hF rfl rfl hbv_10 (fun w hS => Y.move hF rfl) rfl fun a hF => ?_
          refine stepV_on (i := 20) rfl hF rfl rfl hbv_10 (fun w hS => Y.move hF rfl) rfl fun a hF => ?_
          obtain ⟨b_8, o_4, hE_4, hY_4⟩ := Y.indexS (P := Tryd.prog) (C := (C_sl C_int)) (xs := rv_9.1) (T := 27) (x := (.tmp 120)) (y := (.tmp 121)) u_27 sz_44 hF rfl rfl (hs_3).1 hx_11
          obtain ⟨cc_4, hc_4, hcell_4⟩ := hE_4.open
          obtain ⟨p_7, c_8, rfl, hs_7⟩ := hc_4
          refine stepV_on (i := 21) rfl hF rfl rfl hbv_10 (fun w hS => hY_4) rfl fun a hF => ?_
          refine stepV_on (i := 22) rfl hF rfl rfl hbv_10 (fun w hS => Y.load1 sz_44 hF rfl (hcell_4 _ hS.stab 0 _ rfl)) rfl fun a hF => ?_
          refine stepV_on (i := 23) rfl hF rfl rfl hbv_10 (fun w hS => Y.lenSl u_44 hF rfl) rfl fun a hF => ?_
          refine stepV_on (i := 24) rfl hF rfl rfl hbv_10 (fun w hS => Y.fieldAddr fo_26_0 hF rfl) rfl fun a hF => ?_
          refine stepV_on (i := 25) rfl hF rfl rfl hbv_10 (fun w hS => Y.load1L 1 sz_3 hF rfl hS rfl rfl) rfl fun a hF => ?_
          refine stepV_on (i := 26) rfl hF rfl rfl hbv_10 (fun w hS => Y.add hF rfl rfl) rfl fun a hF => ?_
          refine stepV_on (i := 27) rfl hF rfl rfl hbv_10 (fun w hS => Y.neq hF rfl rfl) rfl fun a hF => ?_
          refine stepV (i := 28) rfl hF (fun w hS => Y.pick_f hF rfl hbv_10 rfl) rfl fun a hF => ?_
          refine stepV (i := 29) rfl hF (fun w hS => Y.move hF rfl) rfl fun a hF => ?_
          refine stepV_off (i := 30) rfl hF rfl rfl hbv_11 rfl fun a hF => ?_
          refine stepV_off (i := 31) rfl hF rfl rfl hbv_11 rfl fun a hF => ?_
          refine stepV_off (i := 32) rfl hF rfl rfl hbv_11 rfl fun a hF => ?_
          refine stepV_off (i := 33) rfl hF rfl rfl hbv_11 rfl fun a hF => ?_
          refine stepV_off (i := 34) rfl hF rfl rfl hbv_11 rfl fun a hF => ?_
          refine stepV_off (i := 35) rfl hF rfl rfl hbv_11 rfl fun a hF => ?_
          refine stepV_off (i := 36) rfl hF rfl rfl hbv_11 rfl fun a hF => ?_
          refine stepV_off (i := 37) rfl hF rfl rfl hbv_11 rfl fun a hF => ?_
          refine stepV_off (i := 38) rfl hF rfl rfl hbv_11 rfl fun a hF => ?_
          refine stepV (i := 39) rfl hF (fun w hS => Y.pick_t hF rfl hbv_11 rfl) rfl fun a hF => ?_
          refine stepV (i := 40) rfl hF (fun w hS => Y.move hF rfl) rfl fun a hF => ?_
          refine stepV_off (i := 41) rfl hF rfl rfl rfl rfl fun a hF => ?_
          refine stepV_off (i := 42) rfl hF rfl rfl rfl rfl fun a hF => ?_
          refine stepV_off (i := 43) rfl hF rfl rfl rfl rfl fun a hF => ?_
          refine stepV_off (i := 44) rfl hF rfl rfl rfl rfl fun a hF => ?_
          refine stepV_off (i := 45) rfl hF rfl rfl rfl rfl fun a hF => ?_
          refine stepV_off (i := 46) rfl hF rfl rfl rfl rfl fun a hF => ?_
          refine stepV_off (i := 47) rfl hF rfl rfl rfl rfl fun a hF => ?_
          refine stepV_off (i := 48) rfl hF rfl rfl rfl rfl fun a hF => ?_
          refine oneV (i := 49) rfl ?_ trivial
          refine guard_off hF rfl rfl rfl rfl fun a hF => nil (then_n ⟨hS.weak (ms := [(1, .cells b [.int .i64 c.Hours, .slice p c.Rates.length c_1, .slice p_1 c.Opens.length c_2, .slice p_2 c.Pairs.length c_3] 26), (2, .cells b_1 [.int .i64 n.a0, .int .i64 n.a1, .int .i64 n.a2, .int .i64 n.a3] 52), (3, .cells b_2 [.int .i64 rv_6.1.Low, .int .i64 rv_6.1.High] 34), (4, .cells b_3 [.int .i64 rv_7.1.Low, .int .i64 rv_7.1.High] 34)]) ⟨rfl, rfl, rfl, rfl, trivial⟩, ?_⟩)
          refine stepV_off (i := 50) rfl hF rfl rfl rfl rfl fun a hF => ?_
          refine stepV (i := 51) rfl hF (fun w hS => Y.pick_t hF rfl rfl rfl) rfl fun a hF => ?_
          exact toTailV ⟨hF.weak ⟨rfl, rfl, rfl, rfl, rfl, rfl, rfl, rfl, rfl, rfl, rfl, trivial⟩, hS.weak ⟨rfl, rfl, rfl, rfl, trivial⟩⟩
         ·skip
          replace ht_5 := cond_f ht_5 hbv_11
          obtain ⟨e_1, hx_12, ht_5⟩ := bind_some ht_5
          obtain rfl := some_inj ht_5
          rcases bcases ((e_1.length : Int) != (wr (c.Hours + 1))) with hbv_12 | hbv_12
          ·skip
           replace ht_6 := cond_t ht_6 hbv_12
           obtain rfl := some_inj ht_6
           refine stepV (i := 0) rfl hF (fun w hS => Y.move hF rfl) rfl fun a hF => ?_
           refine stepV (i := 1) rfl hF (fun w hS => Y.neq hF rfl rfl) rfl fun a hF => ?_
           refine stepV (i := 2) rfl hF (fun w hS => Y.move hF rfl) rfl fun a hF => ?_
           refine stepV_on (i := 3) rfl hF rfl rfl hbv_7 (fun w hS => Y.move hF rfl) rfl fun a hF => ?_
           refine stepV_on (i := 4) rfl hF rfl rfl hbv_7 (fun w hS => Y.neq hF rfl rfl) rfl fun a hF => ?_
           refine stepV (i := 5) rfl hF (fun w hS => Y.pick_f hF rfl hbv_7 rfl) rfl fun a hF => ?_
           refine stepV (i := 6) rfl hF (fun w hS => Y.move hF rfl) rfl fun a hF => ?_
           refine stepV_on (i := 7) rfl hF rfl rfl hbv_8 (fun w hS => Y.move hF rfl) rfl fun a hF => ?_
           refine stepV_on (i := 8) rfl hF rfl rfl hbv_8 (fun w hS => Y.not hF rfl) rfl fun a hF => ?_
           refine stepV (i := 9) rfl hF (fun w hS => Y.pick_f hF rfl hbv_8 rfl) rfl fun a hF => ?_
           refine stepV (i := 10) rfl hF (fun w hS => Y.move hF rfl) rfl fun a hF => ?_
           refine stepV_on (i := 11) rfl hF rfl rfl hbv_9 (fun w hS => Y.move hF rfl) rfl fun a hF => ?_
           refine stepV_on (i := 12) rfl hF rfl rfl hbv_9 (fun w hS => Y.lenSl u_27 hF rfl) rfl fun a hF => ?_
           refine stepV_on (i := 13) rfl hF rfl rfl hbv_9 (fun w hS => Y.fieldAddr fo_26_1 hF rfl) rfl fun a hF => ?_
           refine stepV_on (i := 14) rfl hF rfl rfl hbv_9 (fun w hS => Y.load1L 1 sz_22 hF rfl hS rfl rfl) rfl fun a hF => ?_
           refine stepV_on (i := 15) rfl hF rfl rfl hbv_9 (fun w hS => Y.lenSl u_22 hF rfl) rfl fun a hF => ?_
           refine stepV_on (i := 16) rfl hF rfl rfl hbv_9 (fun w hS => Y.neq hF rfl rfl) rfl fun a hF => ?_
           refine stepV (i := 17) rfl hF (fun w hS => Y.pick_f hF rfl hbv_9 rfl) rfl fun a hF => ?_
           refine stepV (i := 18) rfl hF (fun w hS => Y.move hF rfl) rfl fun a hF => ?_
           refine stepV_on (i := 19) rfl hF rfl rfl hbv_10 (fun w hS => Y.move hF rfl) rfl fun a hF => ?_
           refine stepV_on (i := 20) rfl hF rfl rfl hbv_10 (fun w hS => Y.move hF rfl) rfl fun a hF => ?_
           obtain ⟨b_9, o_5, hE_5, hY_5⟩ := Y.indexS (P := Tryd.prog) (C := (C_sl C_int)) (xs := rv_9.1) (T := 27) (x := (.tmp 120)) (y := (.tmp 121)) u_27 sz_44 hF rfl rfl (hs_3).1 hx_11
           obtain ⟨cc_5, hc_5, hcell_5⟩ := hE_5.open
           obtain ⟨p_8, c_9, rfl, hs_8⟩ := hc_5
           refine stepV_on (i := 21) rfl hF rfl rfl hbv_10 (fun w hS => hY_5) rfl fun a hF => ?_
           refine stepV_on (i := 22) rfl hF rfl rfl hbv_10 (fun w hS => Y.load1 sz_44 hF rfl (hcell_5 _ hS.stab 0 _ rfl)) rfl fun a hF => ?_
           refine stepV_on (i := 23) rfl hF rfl rfl hbv_10 (fun w hS => Y.lenSl u_44 hF rfl) rfl fun a hF => ?_
           refine stepV_on (i := 24) rfl hF rfl rfl hbv_10 (fun w hS => Y.fieldAddr fo_26_0 hF rfl) rfl fun a hF => ?_
           refine stepV_on (i := 25) rfl hF rfl rfl hbv_10 (fun w hS => Y.load1L 1 sz_3 hF rfl hS rfl rfl) rfl fun a hF => ?_
           refine stepV_on (i := 26) rfl hF rfl rfl hbv_10 (fun w hS => Y.add hF rfl rfl) rfl fun a hF => ?_
           refine stepV_on (i := 27) rfl hF rfl rfl hbv_10 (fun w hS => Y.neq hF rfl rfl) rfl fun a hF => ?_
           refine stepV (i := 28) rfl hF (fun w hS => Y.pick_f hF rfl hbv_10 rfl) rfl fun a hF => ?_
           refine stepV (i := 29) rfl hF (fun w hS => Y.move hF rfl) rfl fun a hF => ?_
           refine stepV_on (i := 30) rfl hF rfl rfl hbv_11 (fun w hS => Y.move hF rfl) rfl fun a hF => ?_
           refine stepV_on (i := 31) rfl hF rfl rfl hbv_11 (fun w hS => Y.move hF rfl) rfl fun a hF => ?_
           obtain ⟨b_10, o_6, hE_6, hY_6⟩ := Y.indexS (P := Tryd.prog) (C := (C_sl C_int)) (xs := rv_9.1) (T := 27) (x := (.tmp 131)) (y := (.tmp 132)) u_27 sz_44 hF rfl rfl (hs_3).1 hx_12
           obtain ⟨cc_6, hc_6, hcell_6⟩ := hE_6.open
           obtain ⟨p_9, c_10, rfl, hs_9⟩ := hc_6
           refine stepV_on (i := 32) rfl hF rfl rfl hbv_11 (fun w hS => hY_6) rfl fun a hF => ?_
           refine stepV_on (i := 33) rfl hF rfl rfl hbv_11 (fun w hS => Y.load1 sz_44 hF rfl (hcell_6 _ hS.stab 0 _ rfl)) rfl fun a hF => ?_
           refine stepV_on (i := 34) rfl hF rfl rfl hbv_11 (fun w hS => Y.lenSl u_44 hF rfl) rfl fun a hF => ?_
           refine stepV_on (i := 35) rfl hF rfl rfl hbv_11 (fun w hS => Y.fieldAddr fo_26_0 hF rfl) rfl fun a hF => ?_
           refine stepV_on (i := 36) rfl hF rfl rfl hbv_11 (fun w hS => Y.load1L 1 sz_3 hF rfl hS rfl rfl) rfl fun a hF => ?_
           refine stepV_on (i := 37) rfl hF rfl rfl hbv_11 (fun w hS => Y.add hF rfl rfl) rfl fun a hF => ?_
           refine stepV_on (i := 38) rfl hF rfl rfl hbv_11 (fun w hS => Y.neq hF rfl rfl) rfl fun a hF => ?_
           refine stepV (i := 39) rfl hF (fun w hS => Y.pick_f hF rfl hbv_11 rfl) rfl fun a hF => ?_
           refine stepV (i := 40) rfl hF (fun w hS => Y.move hF rfl) rfl fun a hF => ?_
           refine stepV_off (i := 41) rfl hF rfl rfl hbv_12 rfl fun a hF => ?_
           refine stepV_off (i := 42) rfl hF rfl rfl hbv_12 rfl fun a hF => ?_
           refine stepV_off (i := 43) rfl hF rfl rfl hbv_12 rfl fun a hF => ?_
           refine stepV_off (i := 44) rfl hF rfl rfl hbv_12 rfl fun a hF => ?_
           refine stepV_off (i := 45) rfl hF rfl rfl hbv_12 rfl fun a hF => ?_
           refine stepV_off (i := 46) rfl hF rfl rfl hbv_12 rfl fun a hF => ?_
           refine stepV_off (i := 47) rfl hF rfl rfl hbv_12 rfl fun a hF => ?_
           refine stepV_off (i := 48) rfl hF rfl rfl hbv_12 rfl fun a hF => ?_
           refine oneV (i := 49) rfl ?_ trivial
           refine guard_off hF rfl rfl hbv_12 rfl fun a hF => nil (then_n ⟨hS.weak (ms := [(1, .cells b [.int .i64 c.Hours, .slice p c.Rates.length c_1, .slice p_1 c.Opens.length c_2, .slice p_2 c.Pairs.length c_3] 26), (2, .cells b_1 [.int .i64 n.a0, .int .i64 n.a1, .int .i64 n.a2, .int .i64 n.a3] 52), (3, .cells b_2 [.int .i64 rv_6.1.Low, .int .i64 rv_6.1.High] 34), (4, .cells b_3 [.int .i64 rv_7.1.Low, .int .i64 rv_7.1.High] 34)]) ⟨rfl, rfl, rfl, rfl, trivial⟩, ?_⟩)
           refine stepV_off (i := 50) rfl hF rfl rfl hbv_12 rfl fun a hF => ?_
           refine stepV (i := 51) rfl hF (fun w hS => Y.pick_t hF rfl hbv_12 rfl) rfl fun a hF => ?_
           exact toTailV ⟨hF.weak ⟨rfl, rfl, rfl, rfl, rfl, rfl, rfl, rfl, rfl, rfl, rfl, trivial⟩, hS.weak ⟨rfl, rfl, rfl, rfl, trivial⟩⟩
          ·skip
           replace ht_6 := cond_f ht_6 hbv_12
           obtain ⟨e_2, hx_13, ht_6⟩ := bind_some ht_6
           obtain ⟨e_3, hx_14, ht_6⟩ := bind_some ht_6
           obtain ⟨rv_11, hx_15, ht_6⟩ := bind_some ht_6
           obtain rfl := some_inj ht_6
           refine stepV (i := 0) rfl hF (fun w hS => Y.move hF rfl) rfl fun a hF => ?_
           refine stepV (i := 1) rfl hF (fun w hS => Y.neq hF rfl rfl) rfl fun a hF => ?_
           refine stepV (i := 2) rfl hF (fun w hS => Y.move hF rfl) rfl fun a hF => ?_
           refine stepV_on (i := 3) rfl hF rfl rfl hbv_7 (fun w hS => Y.move hF rfl) rfl fun a hF => ?_
           refine stepV_on (i := 4) rfl hF rfl rfl hbv_7 (fun w hS => Y.neq hF rfl rfl) rfl fun a hF => ?_
           refine stepV (i := 5) rfl hF (fun w hS => Y.pick_f hF rfl hbv_7 rfl) rfl fun a hF => ?_
           refine stepV (i := 6) rfl hF (fun w hS => Y.move hF rfl) rfl fun a hF => ?_
           refine stepV_on (i := 7) rfl hF rfl rfl hbv_8 (fun w hS => Y.move hF rfl) rfl fun a hF => ?_
           refine stepV_on (i := 8) rfl hF rfl rfl hbv_8 (fun w hS => Y.not hF rfl) rfl fun a hF => ?_
           refine stepV (i := 9) rfl hF (fun w hS => Y.pick_f hF rfl hbv_8 rfl) rfl fun a hF => ?_
           refine stepV (i := 10) rfl hF (fun w hS => Y.move hF rfl) rfl fun a hF => ?_
           refine stepV_on (i := 11) rfl hF rfl rfl hbv_9 (fun w hS => Y.move hF rfl) rfl fun a hF => ?_
           refine stepV_on (i := 12) rfl hF rfl rfl hbv_9 (fun w hS => Y.lenSl u_27 hF rfl) rfl fun a hF => ?_
           refine stepV_on (i := 13) rfl hF rfl rfl hbv_9 (fun w hS => Y.fieldAddr fo_26_1 hF rfl) rfl fun a hF => ?_
           refine stepV_on (i := 14) rfl hF rfl rfl hbv_9 (fun w hS => Y.load1L 1 sz_22 hF rfl hS rfl rfl) rfl fun a hF => ?_
           refine stepV_on (i := 15) rfl hF rfl rfl hbv_9 (fun w hS => Y.lenSl u_22 hF rfl) rfl fun a hF => ?_
           refine stepV_on (i := 16) rfl hF rfl rfl hbv_9 (fun w hS => Y.neq hF rfl rfl) rfl fun a hF => ?_
           refine stepV (i := 17) rfl hF (fun w hS => Y.pick_f hF rfl hbv_9 rfl) rfl fun a hF => ?_
           refine stepV (i := 18) rfl hF (fun w hS => Y.move hF rfl) rfl fun a hF => ?_
           refine stepV_on (i := 19) rfl hF rfl rfl hbv_10 (fun w hS => Y.move hF rfl) rfl fun a hF => ?_
           refine stepV_on (i := 20) rfl hF rfl rfl hbv_10 (fun w hS => Y.move hF rfl) rfl fun a hF => ?_
           obtain ⟨b_11, o_7, hE_7, hY_7⟩ := Y.indexS (P := Tryd.prog) (C := (C_sl C_int)) (xs := rv_9.1) (T := 27) (x := (.tmp 120)) (y := (.tmp 121)) u_27 sz_44 hF rfl rfl (hs_3).1 hx_11
           obtain ⟨cc_7, hc_7, hcell_7⟩ := hE_7.open
           obtain ⟨p_10, c_11, rfl, hs_10⟩ := hc_7
           refine stepV_on (i := 21) rfl hF rfl rfl hbv_10 (fun w hS => hY_7) rfl fun a hF => ?_
           refine stepV_on (i := 22) rfl hF rfl rfl hbv_10 (fun w hS => Y.load1 sz_44 hF rfl (hcell_7 _ hS.stab 0 _ rfl)) rfl fun a hF => ?_
           refine stepV_on (i := 23) rfl hF rfl rfl hbv_10 (fun w hS => Y.lenSl u_44 hF rfl) rfl fun a hF => ?_
           refine stepV_on (i := 24) rfl hF rfl rfl hbv_10 (fun w hS => Y.fieldAddr fo_26_0 hF rfl) rfl fun a hF => ?_
           refine stepV_on (i := 25) rfl hF rfl rfl hbv_10 (fun w hS => Y.load1L 1 sz_3 hF rfl hS rfl rfl) rfl fun a hF => ?_
           refine stepV_on (i := 26) rfl hF rfl rfl hbv_10 (fun w hS => Y.add hF rfl rfl) rfl fun a hF => ?_
           refine stepV_on (i := 27) rfl hF rfl rfl hbv_10 (fun w hS => Y.neq hF rfl rfl) rfl fun a hF => ?_
           refine stepV (i := 28) rfl hF (fun w hS => Y.pick_f hF rfl hbv_10 rfl) rfl fun a hF => ?_
           refine stepV (i := 29) rfl hF (fun w hS => Y.move hF rfl) rfl fun a hF => ?_
           refine stepV_on (i := 30) rfl hF rfl rfl hbv_11 (fun w hS => Y.move hF rfl) rfl fun a hF => ?_
           refine stepV_on (i := 31) rfl hF rfl rfl hbv_11 (fun w hS => Y.move hF rfl) rfl fun a hF => ?_
           obtain ⟨b_12, o_8, hE_8, hY_8⟩ := Y.indexS (P := Tryd.prog) (C := (C_sl C_int)) (xs := rv_9.1) (T := 27) (x := (.tmp 131)) (y := (.tmp 132)) u_27 sz_44 hF rfl rfl (hs_3).1 hx_12
           obtain ⟨cc_8, hc_8, hcell_8⟩ := hE_8.open
           obtain ⟨p_11, c_12, rfl, hs_11⟩ := hc_8
           refine stepV_on (i := 32) rfl hF rfl rfl hbv_11 (fun w hS => hY_8) rfl fun a hF => ?_
           refine stepV_on (i := 33) rfl hF rfl rfl hbv_11 (fun w hS => Y.load1 sz_44 hF rfl (hcell_8 _ hS.stab 0 _ rfl)) rfl fun a hF => ?_
           refine stepV_on (i := 34) rfl hF rfl rfl hbv_11 (fun w hS => Y.lenSl u_44 hF rfl) rfl fun a hF => ?_
           refine stepV_on (i := 35) rfl hF rfl rfl hbv_11 (fun w hS => Y.fieldAddr fo_26_0 hF rfl) rfl fun a hF => ?_
           refine stepV_on (i := 36) rfl hF rfl rfl hbv_11 (fun w hS => Y.load1L 1 sz_3 hF rfl hS rfl rfl) rfl fun a hF => ?_
           refine stepV_on (i := 37) rfl hF rfl rfl hbv_11 (fun w hS => Y.add hF rfl rfl) rfl fun a hF => ?_
           refine stepV_on (i := 38) rfl hF rfl rfl hbv_11 (fun w hS => Y.neq hF rfl rfl) rfl fun a hF => ?_
           refine stepV (i := 39) rfl hF (fun w hS => Y.pick_f hF rfl hbv_11 rfl) rfl fun a hF => ?_
           refine stepV (i := 40) rfl hF (fun w hS => Y.move hF rfl) rfl fun a hF => ?_
           refine stepV_on (i := 41) rfl hF rfl rfl hbv_12 (fun w hS => Y.loadNL 4 sz_34 hF rfl hS rfl rfl rfl) rfl fun a hF => ?_
           refine stepV_on (i := 42) rfl hF rfl rfl hbv_12 (fun w hS => Y.move hF rfl) rfl fun a hF => ?_
           refine stepV_on (i := 43) rfl hF rfl rfl hbv_12 (fun w hS => Y.move hF rfl) rfl fun a hF => ?_
           obtain ⟨b_13, o_9, hE_9, hY_9⟩ := Y.indexS (P := Tryd.prog) (C := (C_sl C_int)) (xs := rv_9.1) (T := 27) (x := (.tmp 143)) (y := (.tmp 144)) u_27 sz_44 hF rfl rfl (hs_3).1 hx_13
           obtain ⟨cc_9, hc_9, hcell_9⟩ := hE_9.open
           obtain ⟨p_12, c_13, rfl, hs_12⟩ := hc_9
           refine stepV_on (i := 44) rfl hF rfl rfl hbv_12 (fun w hS => hY_9) rfl fun a hF => ?_
           refine stepV_on (i := 45) rfl hF rfl rfl hbv_12 (fun w hS => Y.load1 sz_44 hF rfl (hcell_9 _ hS.stab 0 _ rfl)) rfl fun a hF => ?_
           refine stepV_on (i := 46) rfl hF rfl rfl hbv_12 (fun w hS => Y.move hF rfl) rfl fun a hF => ?_
           obtain ⟨b_14, o_10, hE_10, hY_10⟩ := Y.indexS (P := Tryd.prog) (C := C_int) (xs := e_2) (T := 44) (x := (.tmp 146)) (y := (.tmp 147)) u_44 sz_3 hF rfl rfl (hs_12).1 hx_14
           obtain ⟨cc_10, hc_10, hcell_10⟩ := hE_10.open
           obtain rfl := hc_10
           refine stepV_on (i := 47) rfl hF rfl rfl hbv_12 (fun w hS => hY_10) rfl fun a hF => ?_
           refine stepV_on (i := 48) rfl hF rfl rfl hbv_12 (fun w hS => Y.load1 sz_3 hF rfl (hcell_10 _ hS.stab 0 _ rfl)) rfl fun a hF => ?_
           refine oneV (i := 49) rfl ?_ trivial
           refine guard_on hF rfl rfl hbv_12 ?_
           refine O.callP (us := [.agg #[.int .i64 rv_7.1.Low, .int .i64 rv_7.1.High], .int .i64 e_3]) ca_35 hF hS (remontoirref00_Has_ok hS.stab rv_7.1 e_3 rv_11 hx_15) rfl rfl fun a w hF hS => ?_
           refine nil (then_n ⟨hS.weak (ms := [(1, .cells b [.int .i64 c.Hours, .slice p c.Rates.length c_1, .slice p_1 c.Opens.length c_2, .slice p_2 c.Pairs.length c_3] 26), (2, .cells b_1 [.int .i64 n.a0, .int .i64 n.a1, .int .i64 n.a2, .int .i64 n.a3] 52), (3, .cells b_2 [.int .i64 rv_6.1.Low, .int .i64 rv_6.1.High] 34), (4, .cells b_3 [.int .i64 rv_7.1.Low, .int .i64 rv_7.1.High] 34)]) ⟨rfl, rfl, rfl, rfl, trivial⟩, ?_⟩)
           refine stepV_on (i := 50) rfl hF rfl rfl hbv_12 (fun w hS => Y.not hF rfl) rfl fun a hF => ?_
           refine stepV (i := 51) rfl hF (fun w hS => Y.pick_f hF rfl hbv_12 rfl) rfl fun a hF => ?_
           exact toTailV ⟨hF.weak ⟨rfl, rfl, rfl, rfl, rfl, rfl, rfl, rfl, rfl, rfl, rfl, trivial⟩, hS.weak ⟨rfl, rfl, rfl, rfl, trivial⟩⟩
    rintro a w ⟨hF, hS⟩
    refine nil (then_n ?_)
    refine cond_b hF rfl (fun hbv_13 => ?_) (fun hbv_13 => ?_)
    ·replace h := cond_t h hbv_13
     refine seq ?_
     refine region ?_
     refine step hF (Y.assign hF rfl) rfl fun a hF => ?_
     refine nil (then_n ?_)
     refine ret_ (then_r (blk_r (then_r (then_r (blk_r (then_r ?_))))))
     replace h := ext_some h hxo
     obtain rfl := some_inj h
     exact leaveP Tryd.results8 hF hS (.cons (.tmp rfl) .nil) .nil rfl
    ·replace h := cond_f h hbv_13
     refine skip_ (then_n ?_)
     refine seq ?_
     refine draws 30 [(0, true), (1, true), (2, true), (3, true), (4, true), (5, true), (6, true), (7, true), (8, true), (9, true), (10, true), (11, true), (12, true), (13, true), (14, true), (15, true), (16, true), (17, true), (18, true), (19, true), (20, true), (21, true), (22, true), (23, true), (24, true), (25, true), (26, true), (27, true), (28, true), (29, true)] mixed_ (by kernel_rfl) (fun w => St w0 D0 Dv_1 _ w) hS.drew (fun _ _ _ _ h => h) ?_
     replace hS := hS.drew
     refine stepT (i := 0) rfl hF (fun w hS => Y.move hF rfl) rfl fun a hF => ?_
     refine stepT (i := 1) rfl hF (fun w hS => Y.eql hF rfl rfl) rfl fun a hF => ?_
     refine stepT (i := 2) rfl hF (fun w hS => Y.move hF rfl) rfl fun a hF => ?_
     obtain ⟨t_7, ht_7, h⟩ := bind_some h
     refine joinT (N := 184) (rs := []) (w0 := w0) (D0 := D0) 11 (us := [(2, .pointer (some ⟨b, 0, none⟩)), (4, .bool v4_0), (5, .int .i64 rv_2), (6, .int .i64 rv_3), (7, .int .i64 rv_4), (8, .int .i64 rv_5), (9, .pointer (some ⟨b_2, 0, none⟩)), (11, .pointer (some ⟨b_3, 0, none⟩)), (13, .int .i64 m), (14, .slice p_3 rv_9.1.length c_4), (166, .bool t_7)]) (ms := [(1, .cells b [.int .i64 c.Hours, .slice p c.Rates.length c_1, .slice p_1 c.Opens.length c_2, .slice p_2 c.Pairs.length c_3] 26), (2, .cells b_1 [.int .i64 n.a0, .int .i64 n.a1, .int .i64 n.a2, .int .i64 n.a3] 52), (3, .cells b_2 [.int .i64 rv_6.1.Low, .int .i64 rv_6.1.High] 34), (4, .cells b_3 [.int .i64 rv_7.1.Low, .int .i64 rv_7.1.High] 34)]) (D' := Dv_1) ?_ ?_
     ·rcases bcases (m == 0) with hbv_14 | hbv_14
      ·-- true
       replace h := cond_t ht_7 hbv_14
       refine stepT_on (i := 3) rfl hF rfl rfl hbv_14 (fun w hS => Y.move hF rfl) rfl fun a hF => ?_
       refine stepT_on (i := 4) rfl hF rfl rfl hbv_14 (fun w hS => Y.move hF rfl) rfl fun a hF => ?_
       obtain ⟨e_4, hx_16, h⟩ := bind_some h
       obtain ⟨b_15, o_11, hE_11, hY_11⟩ := Y.indexS (P := Tryd.prog) (C := (C_sl C_int)) (xs := rv_9.1) (T := 27) (x := (.tmp 156)) (y := (.tmp 157)) u_27 sz_44 hF rfl rfl (hs_3).1 hx_16
       obtain ⟨cc_11, hc_11, hcell_11⟩ := hE_11.open
       obtain ⟨p_13, c_14, rfl, hs_13⟩ := hc_11
       refine stepT_on (i := 5) rfl hF rfl rfl hbv_14 (fun w hS => hY_11) rfl fun a hF => ?_
       refine stepT_on (i := 6) rfl hF rfl rfl hbv_14 (fun w hS => Y.load1 sz_44 hF rfl (hcell_11 _ hS.stab 0 _ rfl)) rfl fun a hF => ?_
       refine stepT_on (i := 7) rfl hF rfl rfl hbv_14 (fun w hS => Y.move hF rfl) rfl fun a hF => ?_
       obtain ⟨e_5, hx_17, h⟩ := bind_some h
       obtain ⟨b_16, o_12, hE_12, hY_12⟩ := Y.indexS (P := Tryd.prog) (C := C_int) (xs := e_4) (T := 44) (x := (.tmp 159)) (y := (.tmp 160)) u_44 sz_3 hF rfl rfl (hs_13).1 hx_17
       obtain ⟨cc_12, hc_12, hcell_12⟩ := hE_12.open
       obtain rfl := hc_12
       refine stepT_on (i := 8) rfl hF rfl rfl hbv_14 (fun w hS => hY_12) rfl fun a hF => ?_
       refine stepT_on (i := 9) rfl hF rfl rfl hbv_14 (fun w hS => Y.load1 sz_3 hF rfl (hcell_12 _ hS.stab 0 _ rfl)) rfl fun a hF => ?_
       refine stepT_on (i := 10) rfl hF rfl rfl hbv_14 (fun w hS => Y.fieldAddr fo_34_0 hF rfl) rfl fun a hF => ?_
       refine stepT_on (i := 11) rfl hF rfl rfl hbv_14 (fun w hS => Y.load1L 3 sz_3 hF rfl hS rfl rfl) rfl fun a hF => ?_
       refine stepT_on (i := 12) rfl hF rfl rfl hbv_14 (fun w hS => Y.neq hF rfl rfl) rfl fun a hF => ?_
       refine stepT (i := 13) rfl hF (fun w hS => Y.pick_t hF rfl hbv_14 rfl) rfl fun a hF => ?_
       obtain rfl := some_inj h
       exact toTail ⟨hF.weak ⟨rfl, rfl, rfl, rfl, rfl, rfl, rfl, rfl, rfl, rfl, rfl, trivial⟩, hS.weak ⟨rfl, rfl, rfl, rfl, trivial⟩⟩
      ·-- false
       replace h := cond_f ht_7 hbv_14
       refine stepT_off (i := 3) rfl hF rfl rfl hbv_14 rfl fun a hF => ?_
       refine stepT_off (i := 4) rfl hF rfl rfl hbv_14 rfl fun a hF => ?_
       refine stepT_off (i := 5) rfl hF rfl rfl hbv_14 rfl fun a hF => ?_
       refine stepT_off (i := 6) rfl hF rfl rfl hbv_14 rfl fun a hF => ?_
       refine stepT_off (i := 7) rfl hF rfl rfl hbv_14 rfl fun a hF => ?_
       refine stepT_off (i := 8) rfl hF rfl rfl hbv_14 rfl fun a hF => ?_
       refine stepT_off (i := 9) rfl hF rfl rfl hbv_14 rfl fun a hF => ?_
       refine stepT_off (i := 10) rfl hF rfl rfl hbv_14 rfl fun a hF => ?_
       refine stepT_off (i := 11) rfl hF rfl rfl hbv_14 rfl fun a hF => ?_
       refine stepT_off (i := 12) rfl hF rfl rfl hbv_14 rfl fun a hF => ?_
       refine stepT (i := 13) rfl hF (fun w hS => Y.pick_f hF rfl hbv_14 rfl) rfl fun a hF => ?_
       obtain rfl := some_inj h
       exact toTail ⟨hF.weak ⟨rfl, rfl, rfl, rfl, rfl, rfl, rfl, rfl, rfl, rfl, rfl, trivial⟩, hS.weak ⟨rfl, rfl, rfl, rfl, trivial⟩⟩
     intro a w hF hS
     refine stepT (i := 14) rfl hF (fun w hS => Y.move hF rfl) rfl fun a hF => ?_
     obtain ⟨t_9, ht_9, h⟩ := bind_some h
     refine joinT (N := 184) (rs := []) (w0 := w0) (D0 := D0) 15 (us := [(2, .pointer (some ⟨b, 0, none⟩)), (4, .bool v4_0), (5, .int .i64 rv_2), (6, .int .i64 rv_3), (7, .int .i64 rv_4), (8, .int .i64 rv_5), (9, .pointer (some ⟨b_2, 0, none⟩)), (11, .pointer (some ⟨b_3, 0, none⟩)), (13, .int .i64 m), (182, .bool t_9)]) (ms := [(1, .cells b [.int .i64 c.Hours, .slice p c.Rates.length c_1, .slice p_1 c.Opens.length c_2, .slice p_2 c.Pairs.length c_3] 26), (2, .cells b_1 [.int .i64 n.a0, .int .i64 n.a1, .int .i64 n.a2, .int .i64 n.a3] 52), (3, .cells b_2 [.int .i64 rv_6.1.Low, .int .i64 rv_6.1.High] 34), (4, .cells b_3 [.int .i64 rv_7.1.Low, .int .i64 rv_7.1.High] 34)]) (D' := Dv_1) ?_ ?_
     ·rcases bcases t_7 with hbv_15 | hbv_15
      ·-- true
       replace h := cond_t ht_9 hbv_15
       refine stepT_off (i := 15) rfl hF rfl rfl hbv_15 rfl fun a hF => ?_
       refine stepT_off (i := 16) rfl hF rfl rfl hbv_15 rfl fun a hF => ?_
       refine stepT_off (i := 17) rfl hF rfl rfl hbv_15 rfl fun a hF => ?_
       refine stepT_offu (i := 18) rfl hF rfl rfl rfl fun a hF => ?_
       refine stepT_offu (i := 19) rfl hF rfl rfl rfl fun a hF => ?_
       refine stepT_offu (i := 20) rfl hF rfl rfl rfl fun a hF => ?_
       refine stepT_offu (i := 21) rfl hF rfl rfl rfl fun a hF => ?_
       refine stepT_offu (i := 22) rfl hF rfl rfl rfl fun a hF => ?_
       refine stepT_offu (i := 23) rfl hF rfl rfl rfl fun a hF => ?_
       refine stepT_offu (i := 24) rfl hF rfl rfl rfl fun a hF => ?_
       refine stepT_offu (i := 25) rfl hF rfl rfl rfl fun a hF => ?_
       refine stepT_offu (i := 26) rfl hF rfl rfl rfl fun a hF => ?_
       refine stepT_offu (i := 27) rfl hF rfl rfl rfl fun a hF => ?_
       refine stepT_off (i := 28) rfl hF rfl rfl hbv_15 rfl fun a hF => ?_
       refine stepT (i := 29) rfl hF (fun w hS => Y.pick_t hF rfl hbv_15 rfl) rfl fun a hF => ?_
       obtain rfl := some_inj h
       exact toTail ⟨hF.weak ⟨rfl, rfl, rfl, rfl, rfl, rfl, rfl, rfl, rfl, rfl, trivial⟩, hS.weak ⟨rfl, rfl, rfl, rfl, trivial⟩⟩
      ·-- false
       replace h := cond_f ht_9 hbv_15
       refine stepT_on (i := 15) rfl hF rfl rfl hbv_15 (fun w hS => Y.move hF rfl) rfl fun a hF => ?_
       refine stepT_on (i := 16) rfl hF rfl rfl hbv_15 (fun w hS => Y.eql hF rfl rfl) rfl fun a hF => ?_
       refine stepT_on (i := 17) rfl hF rfl rfl hbv_15 (fun w hS => Y.move hF rfl) rfl fun a hF => ?_
       obtain ⟨t_8, ht_8, h⟩ := bind_some h
       refine joinT (N := 184) (rs := []) (w0 := w0) (D0 := D0) 11 (us := [(2, .pointer (some ⟨b, 0, none⟩)), (4, .bool v4_0), (5, .int .i64 rv_2), (6, .int .i64 rv_3), (7, .int .i64 rv_4), (8, .int .i64 rv_5), (9, .pointer (some ⟨b_2, 0, none⟩)), (11, .pointer (some ⟨b_3, 0, none⟩)), (13, .int .i64 m), (167, .bool t_7), (181, .bool t_8)]) (ms := [(1, .cells b [.int .i64 c.Hours, .slice p c.Rates.length c_1, .slice p_1 c.Opens.length c_2, .slice p_2 c.Pairs.length c_3] 26), (2, .cells b_1 [.int .i64 n.a0, .int .i64 n.a1, .int .i64 n.a2, .int .i64 n.a3] 52), (3, .cells b_2 [.int .i64 rv_6.1.Low, .int .i64 rv_6.1.High] 34), (4, .cells b_3 [.int .i64 rv_7.1.Low, .int .i64 rv_7.1.High] 34)]) (D' := Dv_1) ?_ ?_
       ·rcases bcases (m == 1) with hbv_16 | hbv_16
        ·-- true
         replace h := cond_t ht_8 hbv_16
         refine stepT_on (i := 18) rfl hF rfl rfl hbv_16 (fun w hS => Y.move hF rfl) rfl fun a hF => ?_
         refine stepT_on (i := 19) rfl hF rfl rfl hbv_16 (fun w hS => Y.move hF rfl) rfl fun a hF => ?_
         obtain ⟨e_6, hx_18, h⟩ := bind_some h
         obtain ⟨b_17, o_13, hE_13, hY_13⟩ := Y.indexS (P := Tryd.prog) (C := (C_sl C_int)) (xs := rv_9.1) (T := 27) (x := (.tmp 171)) (y := (.tmp 172)) u_27 sz_44 hF rfl rfl (hs_3).1 hx_18
         obtain ⟨cc_13, hc_13, hcell_13⟩ := hE_13.open
         obtain ⟨p_14, c_15, rfl, hs_14⟩ := hc_13
         refine stepT_on (i := 20) rfl hF rfl rfl hbv_16 (fun w hS => hY_13) rfl fun a hF => ?_
         refine stepT_on (i := 21) rfl hF rfl rfl hbv_16 (fun w hS => Y.load1 sz_44 hF rfl (hcell_13 _ hS.stab 0 _ rfl)) rfl fun a hF => ?_
         refine stepT_on (i := 22) rfl hF rfl rfl hbv_16 (fun w hS => Y.move hF rfl) rfl fun a hF => ?_
         obtain ⟨e_7, hx_19, h⟩ := bind_some h
         obtain ⟨b_18, o_14, hE_14, hY_14⟩ := Y.indexS (P := Tryd.prog) (C := C_int) (xs := e_6) (T := 44) (x := (.tmp 174)) (y := (.tmp 175)) u_44 sz_3 hF rfl rfl (hs_14).1 hx_19
         obtain ⟨cc_14, hc_14, hcell_14⟩ := hE_14.open
         obtain rfl := hc_14
         refine stepT_on (i := 23) rfl hF rfl rfl hbv_16 (fun w hS => hY_14) rfl fun a hF => ?_
         refine stepT_on (i := 24) rfl hF rfl rfl hbv_16 (fun w hS => Y.load1 sz_3 hF rfl (hcell_14 _ hS.stab 0 _ rfl)) rfl fun a hF => ?_
         refine stepT_on (i := 25) rfl hF rfl rfl hbv_16 (fun w hS => Y.fieldAddr fo_34_1 hF rfl) rfl fun a hF => ?_
         refine stepT_on (i := 26) rfl hF rfl rfl hbv_16 (fun w hS => Y.load1L 3 sz_3 hF rfl hS rfl rfl) rfl fun a hF => ?_
         refine stepT_on (i := 27) rfl hF rfl rfl hbv_16 (fun w hS => Y.neq hF rfl rfl) rfl fun a hF => ?_
         refine stepT_on (i := 28) rfl hF rfl rfl hbv_15 (fun w hS => Y.pick_t hF rfl hbv_16 rfl) rfl fun a hF => ?_
         obtain rfl := some_inj h
         exact toTail ⟨hF.weak ⟨rfl, rfl, rfl, rfl, rfl, rfl, rfl, rfl, rfl, rfl, rfl, trivial⟩, hS.weak ⟨rfl, rfl, rfl, rfl, trivial⟩⟩
        ·-- false
         replace h := cond_f ht_8 hbv_16
         refine stepT_off (i := 18) rfl hF rfl rfl hbv_16 rfl fun a hF => ?_
         refine stepT_off (i := 19) rfl hF rfl rfl hbv_16 rfl fun a hF => ?_
         refine stepT_off (i := 20) rfl hF rfl rfl hbv_16 rfl fun a hF => ?_
         refine stepT_off (i := 21) rfl hF rfl rfl hbv_16 rfl fun a hF => ?_
         refine stepT_off (i := 22) rfl hF rfl rfl hbv_16 rfl fun a hF => ?_
         refine stepT_off (i := 23) rfl hF rfl rfl hbv_16 rfl fun a hF => ?_
         refine stepT_off (i := 24) rfl hF rfl rfl hbv_16 rfl fun a hF => ?_
         refine stepT_off (i := 25) rfl hF rfl rfl hbv_16 rfl fun a hF => ?_
         refine stepT_off (i := 26) rfl hF rfl rfl hbv_16 rfl fun a hF => ?_
         refine stepT_off (i := 27) rfl hF rfl rfl hbv_16 rfl fun a hF => ?_
         refine stepT_on (i := 28) rfl hF rfl rfl hbv_15 (fun w hS => Y.pick_f hF rfl hbv_16 rfl) rfl fun a hF => ?_
         obtain rfl := some_inj h
         exact toTail ⟨hF.weak ⟨rfl, rfl, rfl, rfl, rfl, rfl, rfl, rfl, rfl, rfl, rfl, trivial⟩, hS.weak ⟨rfl, rfl, rfl, rfl, trivial⟩⟩
       intro a w hF hS
       refine stepT (i := 29) rfl hF (fun w hS => Y.pick_f hF rfl hbv_15 rfl) rfl fun a hF => ?_
       obtain rfl := some_inj h
       exact toTail ⟨hF.weak ⟨rfl, rfl, rfl, rfl, rfl, rfl, rfl, rfl, rfl, rfl, trivial⟩, hS.weak ⟨rfl, rfl, rfl, rfl, trivial⟩⟩
     intro a w hF hS
     refine toTail ?_
     refine nil (then_n ?_)
     refine cond_b hF rfl (fun hbv_17 => ?_) (fun hbv_17 => ?_)
     ·replace h := cond_t h hbv_17
      refine seq ?_
      refine region ?_
      refine step hF (Y.assign hF rfl) rfl fun a hF => ?_
      refine nil (then_n ?_)
      refine ret_ (blk_r (then_r (then_r (blk_r (then_r ?_)))))
      replace h := ext_some h hxo
      obtain rfl := some_inj h
      exact leaveP Tryd.results8 hF hS (.cons (.tmp rfl) .nil) .nil rfl
     ·replace h := cond_f h hbv_17
      refine skip_ (blk_n (then_n ?_))
      refine region ?_
      refine step hF (Y.move hF rfl) rfl fun a hF => ?_
      refine step hF (Y.add hF rfl rfl) rfl fun a hF => ?_
      refine step hF (Y.assign hF rfl) rfl fun a hF => ?_
      refine nil (then_n ?_)
      exact ⟨_, nxt_some h, v4_0, (wr (m + 1)), Dv_1, rfl, hlev.trans hlev_1, hF.weak ⟨rfl, rfl, rfl, rfl, rfl, rfl, rfl, rfl, rfl, trivial⟩, hS.weak ⟨rfl, rfl, rfl, rfl, trivial⟩⟩
   ·replace h := cond_f h hbv_6
    refine exit_ (then_x (then_x (blk_hit (then_n ?_))))
    replace h := ext_some h hxo
    refine seq ?_
    refine region ?_
    obtain ⟨rv_12, hx_20, h⟩ := bind_some h
    refine O.callP (us := []) ca_21 hF hS (remontoirlaw02_works_ok hS.stab hG rv_12 hx_20) rfl rfl fun a w hF hS => ?_
    refine step hF (Y.assign hF rfl) rfl fun a hF => ?_
    refine nil (then_n ?_)
    refine ret_ ?_
    obtain rfl := some_inj h
    exact leaveP Tryd.results8 hF hS (.cons (.tmp rfl) .nil) .nil rfl

end Go.Proofs.YtpniidbbbhbglaaDoor.Rt
