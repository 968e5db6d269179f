/- Walks of the functions of this seat: what each Go function comes to, as a Lean function, and the proof. A law. Under no conditions. -/
import Derived.Test.YtpniidbbbhbglaaDoorWNZ
set_option linter.unusedVariables false
set_option linter.unusedSimpArgs false
set_option maxRecDepth 100000
set_option maxHeartbeats 4000000
namespace Go.Proofs.YtpniidbbbhbglaaDoor.Rt
open Go Go.RowKit
noncomputable def remontoirlaw02_BeatTrue (c : BeatCellar) (bits : (List Int)) (n : Arr4) : Option Bool :=
  (remontoirlaw02_sound c).bind fun rv =>
  cond (!rv)
  ((remontoirlaw02_works).bind fun rv_1 =>
  some rv_1)
  ((remontoirlaw02_went c bits).bind fun rv_2 =>
  (remontoirref00_Rest n.a0 (c.Rates.length : Int)).bind fun rv_3 =>
  (remontoirref00_Rest n.a1 (c.Rates.length : Int)).bind fun rv_4 =>
  (remontoirref00_Rest n.a2 (wr (c.Hours + 1))).bind fun rv_5 =>
  (remontoirref00_Rest n.a3 (wr (c.Hours + 1))).bind fun rv_6 =>
  (beat_IsTruth rv_2.2 rv_2.1).bind fun rv_7 =>
  (beat_Offset rv_2.2 rv_3 rv_5).bind fun rv_8 =>
  (beat_Apart rv_2.2 rv_3 rv_4 rv_5).bind fun rv_9 =>
  (beat_Drift rv_2.2 rv_3 rv_5 rv_6).bind fun rv_10 =>
  (beat_Wrong rv_2.2).bind fun rv_11 =>
  (cond (rv_7.2 == 0) (some (rv_8.2 == 0)) (some false)).bind fun t =>
  (cond t (some (rv_9.2 == 0)) (some false)).bind fun t_1 =>
  (cond t_1 (some (rv_10.2 == 0)) (some false)).bind fun t_2 =>
  (cond t_2 (some (rv_11.2 == 0)) (some false)).bind fun t_3 =>
  (cond t_3 (some rv_7.1) (some false)).bind fun t_4 =>
  (cond t_4 ((idx rv_2.1 rv_3).bind fun e =>
  (idx e rv_5).bind fun e_1 =>
  (remontoirref00_Has rv_8.1 e_1).bind fun rv_12 =>
  some rv_12) (some false)).bind fun t_5 =>
  (cond t_5 ((idx rv_2.1 rv_3).bind fun e_2 =>
  (idx e_2 rv_5).bind fun e_3 =>
  (idx rv_2.1 rv_4).bind fun e_4 =>
  (idx e_4 rv_5).bind fun e_5 =>
  (remontoirref00_Has rv_9.1 (wr (e_3 - e_5))).bind fun rv_13 =>
  some rv_13) (some false)).bind fun t_6 =>
  (cond t_6 ((idx rv_2.1 rv_3).bind fun e_6 =>
  (idx e_6 rv_6).bind fun e_7 =>
  (idx rv_2.1 rv_3).bind fun e_8 =>
  (idx e_8 rv_5).bind fun e_9 =>
  (remontoirref00_Has rv_10.1 (wr (e_7 - e_9))).bind fun rv_14 =>
  some rv_14) (some false)).bind fun t_7 =>
  (cond (t_7 && ((rv_11.1.length : Int) == 0)) ((remontoirlaw02_works).bind fun rv_15 =>
  some rv_15) (some false)).bind fun t_8 =>
  some t_8)
theorem remontoirlaw02_BeatTrue_ok {w0 : World} {D0 : Stab} (hD : D0.on w0) (c : BeatCellar) (bits : (List Int)) (n : Arr4) {p : Option Addr} {c_1 : Nat} {p_1 : Option Addr} {c_2 : Nat} {p_2 : Option Addr} {c_3 : Nat} {p_3 : Option Addr} {c_4 : Nat} (hs : SRc C_Span D0 c.Rates p c_1) (hs_1 : SRc C_BeatOpen D0 c.Opens p_1 c_2) (hs_2 : SRc C_BeatPair D0 c.Pairs p_2 c_3) (hs_3 : SRc C_int D0 bits p_3 c_4) (hG : Glob D0) (out : Bool) (h : remontoirlaw02_BeatTrue c bits n = some out) : Calls Tryd.prog 7 [.agg #[.int .i64 c.Hours, .slice p c.Rates.length c_1, .slice p_1 c.Opens.length c_2, .slice p_2 c.Pairs.length c_3], .slice p_3 bits.length c_4, .agg #[.int .i64 n.a0, .int .i64 n.a1, .int .i64 n.a2, .int .i64 n.a3]].toArray w0 (RetP D0 w0 (.bool out)) := by
 refine enter _ 169 Tryd.func7 rfl Tryd.ntmps7 rfl fun a hF => ?_
 replace hF : Frm 169 [] [(0, .agg #[.int .i64 c.Hours, .slice p c.Rates.length c_1, .slice p_1 c.Opens.length c_2, .slice p_2 c.Pairs.length c_3]), (1, .slice p_3 bits.length c_4), (2, .agg #[.int .i64 n.a0, .int .i64 n.a1, .int .i64 n.a2, .int .i64 n.a3])] a := hF
 have hS := St.start hD
 unfold remontoirlaw02_BeatTrue at h
 refine seq ?_
 refine region ?_
 refine O.box (cs := [.int .i64 c.Hours, .slice p c.Rates.length c_1, .slice p_1 c.Opens.length c_2, .slice p_2 c.Pairs.length c_3]) 1 hF rfl rfl hS rfl fun b a w hF hS => ?_
 refine O.box (cs := [.int .i64 n.a0, .int .i64 n.a1, .int .i64 n.a2, .int .i64 n.a3]) 2 hF rfl rfl hS rfl fun b_1 a w hF hS => ?_
 refine step hF (Y.assign hF rfl) rfl fun a hF => ?_
 refine nil (then_n ?_)
 refine seq ?_
 refine seq ?_
 refine region ?_
 refine step hF (Y.loadNL 1 sz_26 hF rfl hS rfl rfl rfl) rfl fun a hF => ?_
 obtain ⟨rv, hx, h⟩ := bind_some h
 refine O.callP (us := [.agg #[.int .i64 c.Hours, .slice p c.Rates.length c_1, .slice p_1 c.Opens.length c_2, .slice p_2 c.Pairs.length c_3]]) ca_32 hF hS (remontoirlaw02_sound_ok hS.stab c hs hs_1 hs_2 rv hx) rfl rfl fun a w hF hS => ?_
 refine step hF (Y.not hF rfl) rfl fun a hF => ?_
 refine nil (then_n ?_)
 refine cond_b hF rfl (fun hbv => ?_) (fun hbv => ?_)
 ·replace h := cond_t h hbv
  refine seq ?_
  refine region ?_
  obtain ⟨rv_1, hx_1, h⟩ := bind_some h
  refine O.callP (us := []) ca_21 hF hS (remontoirlaw02_works_ok hS.stab hG rv_1 hx_1) rfl rfl fun a w hF hS => ?_
  refine step hF (Y.assign hF rfl) rfl fun a hF => ?_
  refine nil (then_n ?_)
  refine ret_ (then_r ?_)
  obtain rfl := some_inj h
  exact leaveP Tryd.results7 hF hS (.cons (.tmp rfl) .nil) .nil rfl
 ·replace h := cond_f h hbv
  refine skip_ (then_n ?_)
  refine seq ?_
  refine region ?_
  refine step hF (Y.loadNL 1 sz_26 hF rfl hS rfl rfl rfl) rfl fun a hF => ?_
  refine step hF (Y.move hF rfl) rfl fun a hF => ?_
  obtain ⟨rv_2, hx_2, h⟩ := bind_some h
  refine O.callS (us := [.agg #[.int .i64 c.Hours, .slice p c.Rates.length c_1, .slice p_1 c.Opens.length c_2, .slice p_2 c.Pairs.length c_3], .slice p_3 bits.length c_4]) ca_33 hF hS (remontoirlaw02_went_ok hS.stab c bits hs hs_1 hs_2 hs_3 rv_2 hx_2) rfl rfl fun v Dv a w hR hlev hF hS => ?_
  replace hs := hs.mono hlev
  replace hs_1 := hs_1.mono hlev
  replace hs_2 := hs_2.mono hlev
  replace hs_3 := hs_3.mono hlev
  replace hG := hG.mono hlev
  obtain ⟨p_4, c_5, p_5, c_6, p_6, c_7, p_7, c_8, rfl, hs_4, hs_5, hs_6, hs_7⟩ := hR
  refine step hF (Y.move hF rfl) rfl fun a hF => ?_
  refine step hF (Y.extract hF rfl rfl) rfl fun a hF => ?_
  refine step hF (Y.extract hF rfl rfl) rfl fun a hF => ?_
  refine O.alloc 3 zc_26 hF hS rfl fun b_2 a w hF hS => ?_
  refine step hF (Y.assign hF rfl) rfl fun a hF => ?_
  refine O.store (us := [.int .i64 rv_2.2.Hours, .slice p_5 rv_2.2.Rates.length c_6, .slice p_6 rv_2.2.Opens.length c_7, .slice p_7 rv_2.2.Pairs.length c_8]) 3 sz_26 hF rfl rfl rfl rfl hS rfl rfl fun a w hF hS => ?_
  refine nil (then_n ?_)
  refine seq ?_
  obtain ⟨rv_3, hx_3, h⟩ := bind_some h
  refine drawsV 11 (.flt 0 (.flt 1 (.flt 2 (.flt 3 (.flt 4 (.flt 6 (.flt 7 (.flt 8 (.flt 9 (.flt 10 (.alt 5 .done .stop))))))))))) mixed_ (by kernel_rfl) (fun w => St w0 D0 Dv [(1, .cells b [.int .i64 c.Hours, .slice p c.Rates.length c_1, .slice p_1 c.Opens.length c_2, .slice p_2 c.Pairs.length c_3] 26), (2, .cells b_1 [.int .i64 n.a0, .int .i64 n.a1, .int .i64 n.a2, .int .i64 n.a3] 52), (3, .cells b_2 [.int .i64 rv_2.2.Hours, .slice p_5 rv_2.2.Rates.length c_6, .slice p_6 rv_2.2.Opens.length c_7, .slice p_7 rv_2.2.Pairs.length c_8] 26)] w) (fun a w => Frm 169 [] [(3, .pointer (some ⟨b, 0, none⟩)), (5, .pointer (some ⟨b_1, 0, none⟩)), (6, .bool false), (7, .slice p_4 rv_2.1.length c_5), (8, .pointer (some ⟨b_2, 0, none⟩)), (38, .int .i64 rv_3), (40, .int .i64 n.a1), (43, .int .i64 (c.Rates.length : Int))] a ∧ St w0 D0 Dv [(1, .cells b [.int .i64 c.Hours, .slice p c.Rates.length c_1, .slice p_1 c.Opens.length c_2, .slice p_2 c.Pairs.length c_3] 26), (2, .cells b_1 [.int .i64 n.a0, .int .i64 n.a1, .int .i64 n.a2, .int .i64 n.a3] 52), (3, .cells b_2 [.int .i64 rv_2.2.Hours, .slice p_5 rv_2.2.Rates.length c_6, .slice p_6 rv_2.2.Opens.length c_7, .slice p_7 rv_2.2.Pairs.length c_8] 26)] w) (hS.weak (ms := [(1, .cells b [.int .i64 c.Hours, .slice p c.Rates.length c_1, .slice p_1 c.Opens.length c_2, .slice p_2 c.Pairs.length c_3] 26), (2, .cells b_1 [.int .i64 n.a0, .int .i64 n.a1, .int .i64 n.a2, .int .i64 n.a3] 52), (3, .cells b_2 [.int .i64 rv_2.2.Hours, .slice p_5 rv_2.2.Rates.length c_6, .slice p_6 rv_2.2.Opens.length c_7, .slice p_7 rv_2.2.Pairs.length c_8] 26)]) ⟨rfl, rfl, rfl, trivial⟩).drew (fun _ _ _ _ h => h) ?_ ?_
  ·replace hS := hS.drew
   have hle0 := hS.le
   refine stepV (i := 0) rfl hF (fun w hS => Y.indexArr u_52 sz_3 hF rfl rfl (by decide) (by decide)) rfl fun a hF => ?_
   refine stepV (i := 1) rfl hF (fun w hS => Y.load1L 2 sz_3 hF rfl hS rfl rfl) rfl fun a hF => ?_
   refine stepV (i := 2) rfl hF (fun w hS => Y.fieldAddr fo_26_1 hF rfl) rfl fun a hF => ?_
   refine stepV (i := 3) rfl hF (fun w hS => Y.load1L 1 sz_22 hF rfl hS rfl rfl) rfl fun a hF => ?_
   refine stepV (i := 4) rfl hF (fun w hS => Y.lenSl u_22 hF rfl) rfl fun a hF => ?_
   refine stepV (i := 6) rfl hF (fun w hS => Y.indexArr u_52 sz_3 hF rfl rfl (by decide) (by decide)) rfl fun a hF => ?_
   refine stepV (i := 7) rfl hF (fun w hS => Y.load1L 2 sz_3 hF rfl hS rfl rfl) rfl fun a hF => ?_
   refine stepV (i := 8) rfl hF (fun w hS => Y.fieldAddr fo_26_1 hF rfl) rfl fun a hF => ?_
   refine stepV (i := 9) rfl hF (fun w hS => Y.load1L 1 sz_22 hF rfl hS rfl rfl) rfl fun a hF => ?_
   refine stepV (i := 10) rfl hF (fun w hS => Y.lenSl u_22 hF rfl) rfl fun a hF => ?_
   refine oneV (i := 5) rfl ?_ trivial
   refine O.callP (us := [.int .i64 n.a0, .int .i64 (c.Rates.length : Int)]) ca_34 hF hS (remontoirref00_Rest_ok hS.stab n.a0 (c.Rates.length : Int) rv_3 hx_3) rfl rfl fun a w hF hS => ?_
   refine nil (then_n ⟨hS.weak (ms := [(1, .cells b [.int .i64 c.Hours, .slice p c.Rates.length c_1, .slice p_1 c.Opens.length c_2, .slice p_2 c.Pairs.length c_3] 26), (2, .cells b_1 [.int .i64 n.a0, .int .i64 n.a1, .int .i64 n.a2, .int .i64 n.a3] 52), (3, .cells b_2 [.int .i64 rv_2.2.Hours, .slice p_5 rv_2.2.Rates.length c_6, .slice p_6 rv_2.2.Opens.length c_7, .slice p_7 rv_2.2.Pairs.length c_8] 26)]) ⟨rfl, rfl, rfl, trivial⟩, ?_⟩)
   exact toTailV ⟨hF.weak ⟨rfl, rfl, rfl, rfl, rfl, rfl, rfl, rfl, trivial⟩, hS.weak ⟨rfl, rfl, rfl, trivial⟩⟩
  rintro a w ⟨hF, hS⟩
  obtain ⟨rv_4, hx_4, h⟩ := bind_some h
  refine O.callP (us := [.int .i64 n.a1, .int .i64 (c.Rates.length : Int)]) ca_34 hF hS (remontoirref00_Rest_ok hS.stab n.a1 (c.Rates.length : Int) rv_4 hx_4) rfl rfl fun a w hF hS => ?_
  refine step hF (Y.assign hF rfl) rfl fun a hF => ?_
  refine step hF (Y.assign hF rfl) rfl fun a hF => ?_
  refine nil (then_n ?_)
  refine seq ?_
  obtain ⟨rv_5, hx_5, h⟩ := bind_some h
  refine drawsV 11 (.flt 0 (.flt 1 (.flt 2 (.flt 3 (.flt 4 (.flt 6 (.flt 7 (.flt 8 (.flt 9 (.flt 10 (.alt 5 .done .stop))))))))))) mixed_ (by kernel_rfl) (fun w => St w0 D0 Dv [(1, .cells b [.int .i64 c.Hours, .slice p c.Rates.length c_1, .slice p_1 c.Opens.length c_2, .slice p_2 c.Pairs.length c_3] 26), (2, .cells b_1 [.int .i64 n.a0, .int .i64 n.a1, .int .i64 n.a2, .int .i64 n.a3] 52), (3, .cells b_2 [.int .i64 rv_2.2.Hours, .slice p_5 rv_2.2.Rates.length c_6, .slice p_6 rv_2.2.Opens.length c_7, .slice p_7 rv_2.2.Pairs.length c_8] 26)] w) (fun a w => Frm 169 [] [(6, .bool false), (7, .slice p_4 rv_2.1.length c_5), (8, .pointer (some ⟨b_2, 0, none⟩)), (9, .int .i64 rv_3), (10, .int .i64 rv_4), (50, .int .i64 rv_5), (52, .int .i64 n.a3), (55, .int .i64 (wr (c.Hours + 1)))] a ∧ St w0 D0 Dv [(1, .cells b [.int .i64 c.Hours, .slice p c.Rates.length c_1, .slice p_1 c.Opens.length c_2, .slice p_2 c.Pairs.length c_3] 26), (2, .cells b_1 [.int .i64 n.a0, .int .i64 n.a1, .int .i64 n.a2, .int .i64 n.a3] 52), (3, .cells b_2 [.int .i64 rv_2.2.Hours, .slice p_5 rv_2.2.Rates.length c_6, .slice p_6 rv_2.2.Opens.length c_7, .slice p_7 rv_2.2.Pairs.length c_8] 26)] w) (hS.weak (ms := [(1, .cells b [.int .i64 c.Hours, .slice p c.Rates.length c_1, .slice p_1 c.Opens.length c_2, .slice p_2 c.Pairs.length c_3] 26), (2, .cells b_1 [.int .i64 n.a0, .int .i64 n.a1, .int .i64 n.a2, .int .i64 n.a3] 52), (3, .cells b_2 [.int .i64 rv_2.2.Hours, .slice p_5 rv_2.2.Rates.length c_6, .slice p_6 rv_2.2.Opens.length c_7, .slice p_7 rv_2.2.Pairs.length c_8] 26)]) ⟨rfl, rfl, rfl, trivial⟩).drew (fun _ _ _ _ h => h) ?_ ?_
  ·replace hS := hS.drew
   have hle0 := hS.le
   refine stepV (i := 0) rfl hF (fun w hS => Y.indexArr u_52 sz_3 hF rfl rfl (by decide) (by decide)) rfl fun a hF => ?_
   refine stepV (i := 1) rfl hF (fun w hS => Y.load1L 2 sz_3 hF rfl hS rfl rfl) rfl fun a hF => ?_
   refine stepV (i := 2) rfl hF (fun w hS => Y.fieldAddr fo_26_0 hF rfl) rfl fun a hF => ?_
   refine stepV (i := 3) rfl hF (fun w hS => Y.load1L 1 sz_3 hF rfl hS rfl rfl) rfl fun a hF => ?_
   refine stepV (i := 4) rfl hF (fun w hS => Y.add hF rfl rfl) rfl fun a hF => ?_
   refine stepV (i := 6) rfl hF (fun w hS => Y.indexArr u_52 sz_3 hF rfl rfl (by decide) (by decide)) rfl fun a hF => ?_
   refine stepV (i := 7) rfl hF (fun w hS => Y.load1L 2 sz_3 hF rfl hS rfl rfl) rfl fun a hF => ?_
   refine stepV (i := 8) rfl hF (fun w hS => Y.fieldAddr fo_26_0 hF rfl) rfl fun a hF => ?_
   refine stepV (i := 9) rfl hF (fun w hS => Y.load1L 1 sz_3 hF rfl hS rfl rfl) rfl fun a hF => ?_
   refine stepV (i := 10) rfl hF (fun w hS => Y.add hF rfl rfl) rfl fun a hF => ?_
   refine oneV (i := 5) rfl ?_ trivial
   refine O.callP (us := [.int .i64 n.a2, .int .i64 (wr (c.Hours + 1))]) ca_34 hF hS (remontoirref00_Rest_ok hS.stab n.a2 (wr (c.Hours + 1)) rv_5 hx_5) rfl rfl fun a w hF hS => ?_
   refine nil (then_n ⟨hS.weak (ms := [(1, .cells b [.int .i64 c.Hours, .slice p c.Rates.length c_1, .slice p_1 c.Opens.length c_2, .slice p_2 c.Pairs.length c_3] 26), (2, .cells b_1 [.int .i64 n.a0, .int .i64 n.a1, .int .i64 n.a2, .int .i64 n.a3] 52), (3, .cells b_2 [.int .i64 rv_2.2.Hours, .slice p_5 rv_2.2.Rates.length c_6, .slice p_6 rv_2.2.Opens.length c_7, .slice p_7 rv_2.2.Pairs.length c_8] 26)]) ⟨rfl, rfl, rfl, trivial⟩, ?_⟩)
   exact toTailV ⟨hF.weak ⟨rfl, rfl, rfl, rfl, rfl, rfl, rfl, rfl, trivial⟩, hS.weak ⟨rfl, rfl, rfl, trivial⟩⟩
  rintro a w ⟨hF, hS⟩
  obtain ⟨rv_6, hx_6, h⟩ := bind_some h
  refine O.callP (us := [.int .i64 n.a3, .int .i64 (wr (c.Hours + 1))]) ca_34 hF hS (remontoirref00_Rest_ok hS.stab n.a3 (wr (c.Hours + 1)) rv_6 hx_6) rfl rfl fun a w hF hS => ?_
  refine step hF (Y.assign hF rfl) rfl fun a hF => ?_
  refine step hF (Y.assign hF rfl) rfl fun a hF => ?_
  refine nil (then_n ?_)
  refine seq ?_
  refine region ?_
  refine step hF (Y.loadNL 3 sz_26 hF rfl hS rfl rfl rfl) rfl fun a hF => ?_
  refine step hF (Y.move hF rfl) rfl fun a hF => ?_
  obtain ⟨rv_7, hx_7, h⟩ := bind_some h
  refine O.callP (us := [.agg #[.int .i64 rv_2.2.Hours, .slice p_5 rv_2.2.Rates.length c_6, .slice p_6 rv_2.2.Opens.length c_7, .slice p_7 rv_2.2.Pairs.length c_8], .slice p_4 rv_2.1.length c_5]) ca_15 hF hS (beat_IsTruth_ok hS.stab rv_2.2 rv_2.1 hs_5 hs_6 hs_7 hs_4 hG rv_7 hx_7) rfl rfl fun a w hF hS => ?_
  refine step hF (Y.move hF rfl) rfl fun a hF => ?_
  refine step hF (Y.extract hF rfl rfl) rfl fun a hF => ?_
  refine step hF (Y.extract hF rfl rfl) rfl fun a hF => ?_
  refine step hF (Y.assign hF rfl) rfl fun a hF => ?_
  refine step hF (Y.assign hF rfl) rfl fun a hF => ?_
  refine nil (then_n ?_)
  refine seq ?_
  refine region ?_
  refine step hF (Y.loadNL 3 sz_26 hF rfl hS rfl rfl rfl) rfl fun a hF => ?_
  refine step hF (Y.move hF rfl) rfl fun a hF => ?_
  refine step hF (Y.move hF rfl) rfl fun a hF => ?_
  obtain ⟨rv_8, hx_8, h⟩ := bind_some h
  refine O.callP (us := [.agg #[.int .i64 rv_2.2.Hours, .slice p_5 rv_2.2.Rates.length c_6, .slice p_6 rv_2.2.Opens.length c_7, .slice p_7 rv_2.2.Pairs.length c_8], .int .i64 rv_3, .int .i64 rv_5]) ca_19 hF hS (beat_Offset_ok hS.stab rv_2.2 rv_3 rv_5 hs_5 hs_6 hs_7 hG rv_8 hx_8) rfl rfl fun a w hF hS => ?_
  refine step hF (Y.move hF rfl) rfl fun a hF => ?_
  refine step hF (Y.extract hF rfl rfl) rfl fun a hF => ?_
  refine step hF (Y.extract hF rfl rfl) rfl fun a hF => ?_
  refine O.alloc 4 zc_34 hF hS rfl fun b_3 a w hF hS => ?_
  refine O.store (us := [.int .i64 rv_8.1.Low, .int .i64 rv_8.1.High]) 4 sz_34 hF rfl rfl rfl rfl hS rfl rfl fun a w hF hS => ?_
  refine step hF (Y.assign hF rfl) rfl fun a hF => ?_
  refine nil (then_n ?_)
  refine seq ?_
  refine region ?_
  refine step hF (Y.loadNL 3 sz_26 hF rfl hS rfl rfl rfl) rfl fun a hF => ?_
  refine step hF (Y.move hF rfl) rfl fun a hF => ?_
  refine step hF (Y.move hF rfl) rfl fun a hF => ?_
  refine step hF (Y.move hF rfl) rfl fun a hF => ?_
  obtain ⟨rv_9, hx_9, h⟩ := bind_some h
  refine O.callP (us := [.agg #[.int .i64 rv_2.2.Hours, .slice p_5 rv_2.2.Rates.length c_6, .slice p_6 rv_2.2.Opens.length c_7, .slice p_7 rv_2.2.Pairs.length c_8], .int .i64 rv_3, .int .i64 rv_4, .int .i64 rv_5]) ca_22 hF hS (beat_Apart_ok hS.stab rv_2.2 rv_3 rv_4 rv_5 hs_5 hs_6 hs_7 hG rv_9 hx_9) rfl rfl fun a w hF hS => ?_
  refine step hF (Y.move hF rfl) rfl fun a hF => ?_
  refine step hF (Y.extract hF rfl rfl) rfl fun a hF => ?_
  refine step hF (Y.extract hF rfl rfl) rfl fun a hF => ?_
  refine O.alloc 5 zc_34 hF hS rfl fun b_4 a w hF hS => ?_
  refine O.store (us := [.int .i64 rv_9.1.Low, .int .i64 rv_9.1.High]) 5 sz_34 hF rfl rfl rfl rfl hS rfl rfl fun a w hF hS => ?_
  refine step hF (Y.assign hF rfl) rfl fun a hF => ?_
  refine nil (then_n ?_)
  refine seq ?_
  refine region ?_
  refine step hF (Y.loadNL 3 sz_26 hF rfl hS rfl rfl rfl) rfl fun a hF => ?_
  refine step hF (Y.move hF rfl) rfl fun a hF => ?_
  refine step hF (Y.move hF rfl) rfl fun a hF => ?_
  refine step hF (Y.move hF rfl) rfl fun a hF => ?_
  obtain ⟨rv_10, hx_10, h⟩ := bind_some h
  refine O.callP (us := [.agg #[.int .i64 rv_2.2.Hours, .slice p_5 rv_2.2.Rates.length c_6, .slice p_6 rv_2.2.Opens.length c_7, .slice p_7 rv_2.2.Pairs.length c_8], .int .i64 rv_3, .int .i64 rv_5, .int .i64 rv_6]) ca_24 hF hS (beat_Drift_ok hS.stab rv_2.2 rv_3 rv_5 rv_6 hs_5 hs_6 hs_7 hG rv_10 hx_10) rfl rfl fun a w hF hS => ?_
  refine step hF (Y.move hF rfl) rfl fun a hF => ?_
  refine step hF (Y.extract hF rfl rfl) rfl fun a hF => ?_
  refine step hF (Y.extract hF rfl rfl) rfl fun a hF => ?_
  refine O.alloc 6 zc_34 hF hS rfl fun b_5 a w hF hS => ?_
  refine O.store (us := [.int .i64 rv_10.1.Low, .int .i64 rv_10.1.High]) 6 sz_34 hF rfl rfl rfl rfl hS rfl rfl fun a w hF hS => ?_
  refine step hF (Y.assign hF rfl) rfl fun a hF => ?_
  refine nil (then_n ?_)
  refine seq ?_
  refine region ?_
  refine step hF (Y.loadNL 3 sz_26 hF rfl hS rfl rfl rfl) rfl fun a hF => ?_
  obtain ⟨rv_11, hx_11, h⟩ := bind_some h
  refine O.callS (us := [.agg #[.int .i64 rv_2.2.Hours, .slice p_5 rv_2.2.Rates.length c_6, .slice p_6 rv_2.2.Opens.length c_7, .slice p_7 rv_2.2.Pairs.length c_8]]) ca_27 hF hS (beat_Wrong_ok hS.stab rv_2.2 hs_5 hs_6 hs_7 hG rv_11 hx_11) rfl rfl fun v_1 Dv_1 a w hR_1 hlev_1 hF hS => ?_
  replace hs := hs.mono hlev_1
  replace hs_1 := hs_1.mono hlev_1
  replace hs_2 := hs_2.mono hlev_1
  replace hs_3 := hs_3.mono hlev_1
  replace hG := hG.mono hlev_1
  replace hs_4 := hs_4.mono hlev_1
  replace hs_5 := hs_5.mono hlev_1
  replace hs_6 := hs_6.mono hlev_1
  replace hs_7 := hs_7.mono hlev_1
  obtain ⟨p_8, c_9, rfl, hs_8⟩ := hR_1
  refine step hF (Y.move hF rfl) rfl fun a hF => ?_
  refine step hF (Y.extract hF rfl rfl) rfl fun a hF => ?_
  refine step hF (Y.extract hF rfl rfl) rfl fun a hF => ?_
  refine step hF (Y.assign hF rfl) rfl fun a hF => ?_
  refine step hF (Y.assign hF rfl) rfl fun a hF => ?_
  refine nil (then_n ?_)
  refine seq ?_
  obtain ⟨t, ht, h⟩ := bind_some h
  obtain ⟨t_1, ht_1, h⟩ := bind_some h
  obtain ⟨t_2, ht_2, h⟩ := bind_some h
  obtain ⟨t_3, ht_3, h⟩ := bind_some h
  obtain ⟨t_4, ht_4, h⟩ := bind_some h
  obtain ⟨t_5, ht_5, h⟩ := bind_some h
  obtain ⟨t_6, ht_6, h⟩ := bind_some h
  obtain ⟨t_7, ht_7, h⟩ := bind_some h
  refine drawsV 70 (.flt 0 (.flt 1 (.flt 2 (.flt 3 (.flt 4 (.flt 5 (.flt 6 (.flt 7 (.flt 8 (.flt 9 (.flt 10 (.flt 11 (.flt 12 (.flt 13 (.flt 14 (.flt 15 (.flt 16 (.flt 17 (.flt 18 (.flt 19 (.flt 20 (.flt 21 (.flt 22 (.flt 23 (.flt 24 (.flt 25 (.flt 26 (.flt 27 (.flt 28 (.flt 29 (.alt 30 (.flt 31 (.flt 32 (.flt 33 (.flt 34 (.flt 35 (.flt 36 (.flt 37 (.flt 38 (.flt 39 (.flt 40 (.flt 41 (.flt 42 (.flt 43 (.flt 44 (.flt 45 (.flt 46 (.flt 47 (.flt 48 (.alt 49 (.flt 50 (.flt 51 (.flt 52 (.flt 53 (.flt 54 (.flt 55 (.flt 56 (.flt 57 (.flt 58 (.flt 59 (.flt 60 (.flt 61 (.flt 62 (.flt 63 (.flt 64 (.flt 65 (.flt 66 (.flt 67 (.alt 68 (.flt 69 .done) .stop))))))))))))))))))) .stop))))))))))))))))))) .stop))))))))))))))))))))))))))))))) mixed_ (by kernel_rfl) (fun w => St w0 D0 Dv_1 [(1, .cells b [.int .i64 c.Hours, .slice p c.Rates.length c_1, .slice p_1 c.Opens.length c_2, .slice p_2 c.Pairs.length c_3] 26), (2, .cells b_1 [.int .i64 n.a0, .int .i64 n.a1, .int .i64 n.a2, .int .i64 n.a3] 52), (3, .cells b_2 [.int .i64 rv_2.2.Hours, .slice p_5 rv_2.2.Rates.length c_6, .slice p_6 rv_2.2.Opens.length c_7, .slice p_7 rv_2.2.Pairs.length c_8] 26), (4, .cells b_3 [.int .i64 rv_8.1.Low, .int .i64 rv_8.1.High] 34), (5, .cells b_4 [.int .i64 rv_9.1.Low, .int .i64 rv_9.1.High] 34), (6, .cells b_5 [.int .i64 rv_10.1.Low, .int .i64 rv_10.1.High] 34)] w) (fun a w => Frm 169 [] [(6, .bool false), (21, .slice p_8 rv_11.1.length c_9), (160, .bool t_7)] a ∧ St w0 D0 Dv_1 [(1, .cells b [.int .i64 c.Hours, .slice p c.Rates.length c_1, .slice p_1 c.Opens.length c_2, .slice p_2 c.Pairs.length c_3] 26), (2, .cells b_1 [.int .i64 n.a0, .int .i64 n.a1, .int .i64 n.a2, .int .i64 n.a3] 52), (3, .cells b_2 [.int .i64 rv_2.2.Hours, .slice p_5 rv_2.2.Rates.length c_6, .slice p_6 rv_2.2.Opens.length c_7, .slice p_7 rv_2.2.Pairs.length c_8] 26), (4, .cells b_3 [.int .i64 rv_8.1.Low, .int .i64 rv_8.1.High] 34), (5, .cells b_4 [.int .i64 rv_9.1.Low, .int .i64 rv_9.1.High] 34), (6, .cells b_5 [.int .i64 rv_10.1.Low, .int .i64 rv_10.1.High] 34)] w) (hS.weak (ms := [(1, .cells b [.int .i64 c.Hours, .slice p c.Rates.length c_1, .slice p_1 c.Opens.length c_2, .slice p_2 c.Pairs.length c_3] 26), (2, .cells b_1 [.int .i64 n.a0, .int .i64 n.a1, .int .i64 n.a2, .int .i64 n.a3] 52), (3, .cells b_2 [.int .i64 rv_2.2.Hours, .slice p_5 rv_2.2.Rates.length c_6, .slice p_6 rv_2.2.Opens.length c_7, .slice p_7 rv_2.2.Pairs.length c_8] 26), (4, .cells b_3 [.int .i64 rv_8.1.Low, .int .i64 rv_8.1.High] 34), (5, .cells b_4 [.int .i64 rv_9.1.Low, .int .i64 rv_9.1.High] 34), (6, .cells b_5 [.int .i64 rv_10.1.Low, .int .i64 rv_10.1.High] 34)]) ⟨rfl, rfl, rfl, rfl, rfl, rfl, trivial⟩).drew (fun _ _ _ _ h => h) ?_ ?_
  ·replace hS := hS.drew
   have hle0 := hS.le
   rcases bcases (rv_7.2 == 0) with hbv_1 | hbv_1
   ·skip
    replace ht := cond_t ht hbv_1
    obtain rfl := some_inj ht
    rcases bcases (rv_8.2 == 0) with hbv_2 | hbv_2
    ·skip
     replace ht_1 := cond_t ht_1 hbv_2
     obtain rfl := some_inj ht_1
     rcases bcases (rv_9.2 == 0) with hbv_3 | hbv_3
     ·skip
      replace ht_2 := cond_t ht_2 hbv_3
      obtain rfl := some_inj ht_2
      rcases bcases (rv_10.2 == 0) with hbv_4 | hbv_4
      ·skip
       replace ht_3 := cond_t ht_3 hbv_4
       obtain rfl := some_inj ht_3
       rcases bcases (rv_11.2 == 0) with hbv_5 | hbv_5
       ·skip
        replace ht_4 := cond_t ht_4 hbv_5
        obtain rfl := some_inj ht_4
        rcases bcases rv_7.1 with hbv_6 | hbv_6
        ·skip
         replace ht_5 := cond_t ht_5 hbv_6
         obtain ⟨e, hx_12, ht_5⟩ := bind_some ht_5
         obtain ⟨e_1, hx_13, ht_5⟩ := bind_some ht_5
         obtain ⟨rv_12, hx_14, ht_5⟩ := bind_some ht_5
         obtain rfl := some_inj ht_5
         rcases bcases rv_12 with hbv_7 | hbv_7
         ·skip
          replace ht_6 := cond_t ht_6 hbv_7
          obtain ⟨e_2, hx_15, ht_6⟩ := bind_some ht_6
          obtain ⟨e_3, hx_16, ht_6⟩ := bind_some ht_6
          obtain ⟨e_4, hx_17, ht_6⟩ := bind_some ht_6
          obtain ⟨e_5, hx_18, ht_6⟩ := bind_some ht_6
          obtain ⟨rv_13, hx_19, ht_6⟩ := bind_some ht_6
          obtain rfl := some_inj ht_6
          rcases bcases rv_13 with hbv_8 | hbv_8
          ·skip
           replace ht_7 := cond_t ht_7 hbv_8
           obtain ⟨e_6, hx_20, ht_7⟩ := bind_some ht_7
           obtain ⟨e_7, hx_21, ht_7⟩ := bind_some ht_7
           obtain ⟨e_8, hx_22, ht_7⟩ := bind_some ht_7
           obtain ⟨e_9, hx_23, ht_7⟩ := bind_some ht_7
           obtain ⟨rv_14, hx_24, ht_7⟩ := bind_some ht_7
           obtain rfl := some_inj ht_7
           refine stepV (i := 0) rfl hF (fun w hS => Y.move hF rfl) rfl fun a hF => ?_
           refine stepV (i := 1) rfl hF (fun w hS => Y.eql hF rfl rfl) rfl fun a hF => ?_
           refine stepV (i := 2) rfl hF (fun w hS => Y.move hF rfl) rfl fun a hF => ?_
           refine stepV_on (i := 3) rfl hF rfl rfl hbv_1 (fun w hS => Y.move hF rfl) rfl fun a hF => ?_
           refine stepV_on (i := 4) rfl hF rfl rfl hbv_1 (fun w hS => Y.eql hF rfl rfl) rfl fun a hF => ?_
           refine stepV (i := 5) rfl hF (fun w hS => Y.pick_t hF rfl hbv_1 rfl) rfl fun a hF => ?_
           refine stepV (i := 6) rfl hF (fun w hS => Y.move hF rfl) rfl fun a hF => ?_
           refine stepV_on (i := 7) rfl hF rfl rfl hbv_2 (fun w hS => Y.move hF rfl) rfl fun a hF => ?_
           refine stepV_on (i := 8) rfl hF rfl rfl hbv_2 (fun w hS => Y.eql hF rfl rfl) rfl fun a hF => ?_
           refine stepV (i := 9) rfl hF (fun w hS => Y.pick_t hF rfl hbv_2 rfl) rfl fun a hF => ?_
           refine stepV (i := 10) rfl hF (fun w hS => Y.move hF rfl) rfl fun a hF => ?_
           refine stepV_on (i := 11) rfl hF rfl rfl hbv_3 (fun w hS => Y.move hF rfl) rfl fun a hF => ?_
           refine stepV_on (i := 12) rfl hF rfl rfl hbv_3 (fun w hS => Y.eql hF rfl rfl) rfl fun a hF => ?_
           refine stepV (i := 13) rfl hF (fun w hS => Y.pick_t hF rfl hbv_3 rfl) rfl fun a hF => ?_
           refine stepV (i := 14) rfl hF (fun w hS => Y.move hF rfl) rfl fun a hF => ?_
           refine stepV_on (i := 15) rfl hF rfl rfl hbv_4 (fun w hS => Y.move hF rfl) rfl fun a hF => ?_
           refine stepV_on (i := 16) rfl hF rfl rfl hbv_4 (fun w hS => Y.eql hF rfl rfl) rfl fun a hF => ?_
           refine stepV (i := 17) rfl hF (fun w hS => Y.pick_t hF rfl hbv_4 rfl) rfl fun a hF => ?_
           refine stepV (i := 18) rfl hF (fun w hS => Y.move hF rfl) rfl fun a hF => ?_
           refine stepV_on (i := 19) rfl hF rfl rfl hbv_5 (fun w hS => Y.move hF rfl) rfl fun a hF => ?_
           refine stepV (i := 20) rfl hF (fun w hS => Y.pick_t hF rfl hbv_5 rfl) rfl fun a hF => ?_
           refine stepV (i := 21) rfl hF (fun w hS => Y.move hF rfl) rfl fun a hF => ?_
           refine stepV_on (i := 22) rfl hF rfl rfl hbv_6 (fun w hS => Y.loadNL 4 sz_34 hF rfl hS rfl rfl rfl) rfl fun a hF => ?_
           refine stepV_on (i := 23) rfl hF rfl rfl hbv_6 (fun w hS => Y.move hF rfl) rfl fun a hF => ?_
           refine stepV_on (i := 24) rfl hF rfl rfl hbv_6 (fun w hS => Y.move hF rfl) rfl fun a hF => ?_
           obtain ⟨b_16, o_10, hE_10, hY_10⟩ := Y.indexS (P := Tryd.prog) (C := (C_sl C_int)) (xs := rv_2.1) (T := 27) (x := (.tmp 114)) (y := (.tmp 115)) u_27 sz_44 hF rfl rfl (hs_4).1 hx_12
           obtain ⟨cc_10, hc_10, hcell_10⟩ := hE_10.open
           obtain ⟨p_14, c_15, rfl, hs_14⟩ := hc_10
           refine stepV_on (i := 25) rfl hF rfl rfl hbv_6 (fun w hS => hY_10) rfl fun a hF => ?_
           refine stepV_on (i := 26) rfl hF rfl rfl hbv_6 (fun w hS => Y.load1 sz_44 hF rfl (hcell_10 _ hS.stab 0 _ rfl)) rfl fun a hF => ?_
           refine stepV_on (i := 27) rfl hF rfl rfl hbv_6 (fun w hS => Y.move hF rfl) rfl fun a hF => ?_
           obtain ⟨b_17, o_11, hE_11, hY_11⟩ := Y.indexS (P := Tryd.prog) (C := C_int) (xs := e) (T := 44) (x := (.tmp 117)) (y := (.tmp 118)) u_44 sz_3 hF rfl rfl (hs_14).1 hx_13
           obtain ⟨cc_11, hc_11, hcell_11⟩ := hE_11.open
           obtain rfl := hc_11
           refine stepV_on (i := 28) rfl hF rfl rfl hbv_6 (fun w hS => hY_11) rfl fun a hF => ?_
           refine stepV_on (i := 29) rfl hF rfl rfl hbv_6 (fun w hS => Y.load1 sz_3 hF rfl (hcell_11 _ hS.stab 0 _ rfl)) rfl fun a hF => ?_
           refine oneV (i := 30) rfl ?_ trivial
           refine guard_on hF rfl rfl hbv_6 ?_
           refine O.callP (us := [.agg #[.int .i64 rv_8.1.Low, .int .i64 rv_8.1.High], .int .i64 e_1]) ca_35 hF hS (remontoirref00_Has_ok hS.stab rv_8.1 e_1 rv_12 hx_14) rfl rfl fun a w hF hS => ?_
           refine nil (then_n ⟨hS.weak (ms := [(1, .cells b [.int .i64 c.Hours, .slice p c.Rates.length c_1, .slice p_1 c.Opens.length c_2, .slice p_2 c.Pairs.length c_3] 26), (2, .cells b_1 [.int .i64 n.a0, .int .i64 n.a1, .int .i64 n.a2, .int .i64 n.a3] 52), (3, .cells b_2 [.int .i64 rv_2.2.Hours, .slice p_5 rv_2.2.Rates.length c_6, .slice p_6 rv_2.2.Opens.length c_7, .slice p_7 rv_2.2.Pairs.length c_8] 26), (4, .cells b_3 [.int .i64 rv_8.1.Low, .int .i64 rv_8.1.High] 34), (5, .cells b_4 [.int .i64 rv_9.1.Low, .int .i64 rv_9.1.High] 34), (6, .cells b_5 [.int .i64 rv_10.1.Low, .int .i64 rv_10.1.High] 34)]) ⟨rfl, rfl, rfl, rfl, rfl, rfl, trivial⟩, ?_⟩)
           refine stepV (i := 31) rfl hF (fun w hS => Y.pick_t hF rfl hbv_6 rfl) rfl fun a hF => ?_
           refine stepV (i := 32) rfl hF (fun w hS => Y.move hF rfl) rfl fun a hF => ?_
           refine stepV_on (i := 33) rfl hF rfl rfl hbv_7 (fun w hS => Y.loadNL 5 sz_34 hF rfl hS rfl rfl rfl) rfl fun a hF => ?_
           refine stepV_on (i := 34) rfl hF rfl rfl hbv_7 (fun w hS => Y.move hF rfl) rfl fun a hF => ?_
           refine stepV_on (i := 35) rfl hF rfl rfl hbv_7 (fun w hS => Y.move hF rfl) rfl fun a hF => ?_
           obtain ⟨b_18, o_12, hE_12, hY_12⟩ := Y.indexS (P := Tryd.prog) (C := (C_sl C_int)) (xs := rv_2.1) (T := 27) (x := (.tmp 125)) (y := (.tmp 126)) u_27 sz_44 hF rfl rfl (hs_4).1 hx_15
           obtain ⟨cc_12, hc_12, hcell_12⟩ := hE_12.open
           obtain ⟨p_15, c_16, rfl, hs_15⟩ := hc_12
           refine stepV_on (i := 36) rfl hF rfl rfl hbv_7 (fun w hS => hY_12) rfl fun a hF => ?_
           refine stepV_on (i := 37) rfl hF rfl rfl hbv_7 (fun w hS => Y.load1 sz_44 hF rfl (hcell_12 _ hS.stab 0 _ rfl)) rfl fun a hF => ?_
           refine stepV_on (i := 38) rfl hF rfl rfl hbv_7 (fun w hS => Y.move hF rfl) rfl fun a hF => ?_
           obtain ⟨b_19, o_13, hE_13, hY_13⟩ := Y.indexS (P := Tryd.prog) (C := C_int) (xs := e_2) (T := 44) (x := (.tmp 128)) (y := (.tmp 129)) u_44 sz_3 hF rfl rfl (hs_15).1 hx_16
           obtain ⟨cc_13, hc_13, hcell_13⟩ := hE_13.open
           obtain rfl := hc_13
           refine stepV_on (i := 39) rfl hF rfl rfl hbv_7 (fun w hS => hY_13) rfl fun a hF => ?_
           refine stepV_on (i := 40) rfl hF rfl rfl hbv_7 (fun w hS => Y.load1 sz_3 hF rfl (hcell_13 _ hS.stab 0 _ rfl)) rfl fun a hF => ?_
           refine stepV_on (i := 41) rfl hF rfl rfl hbv_7 (fun w hS => Y.move hF rfl) rfl fun a hF => ?_
           refine stepV_on (i := 42) rfl hF rfl rfl hbv_7 (fun w hS => Y.move hF rfl) rfl fun a hF => ?_
           obtain ⟨b_20, o_14, hE_14, hY_14⟩ := Y.indexS (P := Tryd.prog) (C := (C_sl C_int)) (xs := rv_2.1) (T := 27) (x := (.tmp 132)) (y := (.tmp 133)) u_27 sz_44 hF rfl rfl (hs_4).1 hx_17
           obtain ⟨cc_14, hc_14, hcell_14⟩ := hE_14.open
           obtain ⟨p_16, c_17, rfl, hs_16⟩ := hc_14
           refine stepV_on (i := 43) rfl hF rfl rfl hbv_7 (fun w hS => hY_14) rfl fun a hF => ?_
           refine stepV_on (i := 44) rfl hF rfl rfl hbv_7 (fun w hS => Y.load1 sz_44 hF rfl (hcell_14 _ hS.stab 0 _ rfl)) rfl fun a hF => ?_
           refine stepV_on (i := 45) rfl hF rfl rfl hbv_7 (fun w hS => Y.move hF rfl) rfl fun a hF => ?_
           obtain ⟨b_21, o_15, hE_15, hY_15⟩ := Y.indexS (P := Tryd.prog) (C := C_int) (xs := e_4) (T := 44) (x := (.tmp 135)) (y := (.tmp 136)) u_44 sz_3 hF rfl rfl (hs_16).1 hx_18
           obtain ⟨cc_15, hc_15, hcell_15⟩ := hE_15.open
           obtain rfl := hc_15
           refine stepV_on (i := 46) rfl hF rfl rfl hbv_7 (fun w hS => hY_15) rfl fun a hF => ?_
           refine stepV_on (i := 47) rfl hF rfl rfl hbv_7 (fun w hS => Y.load1 sz_3 hF rfl (hcell_15 _ hS.stab 0 _ rfl)) rfl fun a hF => ?_
           refine stepV_on (i := 48) rfl hF rfl rfl hbv_7 (fun w hS => Y.sub hF rfl rfl) rfl fun a hF => ?_
           refine oneV (i := 49) rfl ?_ trivial
           refine guard_on hF rfl rfl hbv_7 ?_
           refine O.callP (us := [.agg #[.int .i64 rv_9.1.Low, .int .i64 rv_9.1.High], .int .i64 (wr (e_3 - e_5))]) ca_35 hF hS (remontoirref00_Has_ok hS.stab rv_9.1 (wr (e_3 - e_5)) rv_13 hx_19) rfl rfl fun a w hF hS => ?_
           refine nil (then_n ⟨hS.weak (ms := [(1, .cells b [.int .i64 c.Hours, .slice p c.Rates.length c_1, .slice p_1 c.Opens.length c_2, .slice p_2 c.Pairs.length c_3] 26), (2, .cells b_1 [.int .i64 n.a0, .int .i64 n.a1, .int .i64 n.a2, .int .i64 n.a3] 52), (3, .cells b_2 [.int .i64 rv_2.2.Hours, .slice p_5 rv_2.2.Rates.length c_6, .slice p_6 rv_2.2.Opens.length c_7, .slice p_7 rv_2.2.Pairs.length c_8] 26), (4, .cells b_3 [.int .i64 rv_8.1.Low, .int .i64 rv_8.1.High] 34), (5, .cells b_4 [.int .i64 rv_9.1.Low, .int .i64 rv_9.1.High] 34), (6, .cells b_5 [.int .i64 rv_10.1.Low, .int .i64 rv_10.1.High] 34)]) ⟨rfl, rfl, rfl, rfl, rfl, rfl, trivial⟩, ?_⟩)
           refine stepV (i := 50) rfl hF (fun w hS => Y.pick_t hF rfl hbv_7 rfl) rfl fun a hF => ?_
           refine stepV (i := 51) rfl hF (fun w hS => Y.move hF rfl) rfl fun a hF => ?_
           refine stepV_on (i := 52) rfl hF rfl rfl hbv_8 (fun w hS => Y.loadNL 6 sz_34 hF rfl hS rfl rfl rfl) rfl fun a hF => ?_
           refine stepV_on (i := 53) rfl hF rfl rfl hbv_8 (fun w hS => Y.move hF rfl) rfl fun a hF => ?_
           refine stepV_on (i := 54) rfl hF rfl rfl hbv_8 (fun w hS => Y.move hF rfl) rfl fun a hF => ?_
           obtain ⟨b_22, o_16, hE_16, hY_16⟩ := Y.indexS (P := Tryd.prog) (C := (C_sl C_int)) (xs := rv_2.1) (T := 27) (x := (.tmp 144)) (y := (.tmp 145)) u_27 sz_44 hF rfl rfl (hs_4).1 hx_20
           obtain ⟨cc_16, hc_16, hcell_16⟩ := hE_16.open
           obtain ⟨p_17, c_18, rfl, hs_17⟩ := hc_16
           refine stepV_on (i := 55) rfl hF rfl rfl hbv_8 (fun w hS => hY_16) rfl fun a hF => ?_
           refine stepV_on (i := 56) rfl hF rfl rfl hbv_8 (fun w hS => Y.load1 sz_44 hF rfl (hcell_16 _ hS.stab 0 _ rfl)) rfl fun a hF => ?_
           refine stepV_on (i := 57) rfl hF rfl rfl hbv_8 (fun w hS => Y.move hF rfl) rfl fun a hF => ?_
           obtain ⟨b_23, o_17, hE_17, hY_17⟩ := Y.indexS (P := Tryd.prog) (C := C_int) (xs := e_6) (T := 44) (x := (.tmp 147)) (y := (.tmp 148)) u_44 sz_3 hF rfl rfl (hs_17).1 hx_21
           obtain ⟨cc_17, hc_17, hcell_17⟩ := hE_17.open
           obtain rfl := hc_17
           refine stepV_on (i := 58) rfl hF rfl rfl hbv_8 (fun w hS => hY_17) rfl fun a hF => ?_
           refine stepV_on (i := 59) rfl hF rfl rfl hbv_8 (fun w hS => Y.load1 sz_3 hF rfl (hcell_17 _ hS.stab 0 _ rfl)) rfl fun a hF => ?_
           refine stepV_on (i := 60) rfl hF rfl rfl hbv_8 (fun w hS => Y.move hF rfl) rfl fun a hF => ?_
           refine stepV_on (i := 61) rfl hF rfl rfl hbv_8 (fun w hS => Y.move hF rfl) rfl fun a hF => ?_
           obtain ⟨b_24, o_18, hE_18, hY_18⟩ := Y.indexS (P := Tryd.prog) (C := (C_sl C_int)) (xs := rv_2.1) (T := 27) (x := (.tmp 151)) (y := (.tmp 152)) u_27 sz_44 hF rfl rfl (hs_4).1 hx_22
           obtain ⟨cc_18, hc_18, hcell_18⟩ := hE_18.open
           obtain ⟨p_18, c_19, rfl, hs_18⟩ := hc_18
           refine stepV_on (i := 62) rfl hF rfl rfl hbv_8 (fun w hS => hY_18) rfl fun a hF => ?_
           refine stepV_on (i := 63) rfl hF rfl rfl hbv_8 (fun w hS => Y.load1 sz_44 hF rfl (hcell_18 _ hS.stab 0 _ rfl)) rfl fun a hF => ?_
           refine stepV_on (i := 64) rfl hF rfl rfl hbv_8 (fun w hS => Y.move hF rfl) rfl fun a hF => ?_
           obtain ⟨b_25, o_19, hE_19, hY_19⟩ := Y.indexS (P := Tryd.prog) (C := C_int) (xs := e_8) (T := 44) (x := (.tmp 154)) (y := (.tmp 155)) u_44 sz_3 hF rfl rfl (hs_18).1 hx_23
           obtain ⟨cc_19, hc_19, hcell_19⟩ := hE_19.open
           obtain rfl := hc_19
           refine stepV_on (i := 65) rfl hF rfl rfl hbv_8 (fun w hS => hY_19) rfl fun a hF => ?_
           refine stepV_on (i := 66) rfl hF rfl rfl hbv_8 (fun w hS => Y.load1 sz_3 hF rfl (hcell_19 _ hS.stab 0 _ rfl)) rfl fun a hF => ?_
           refine stepV_on (i := 67) rfl hF rfl rfl hbv_8 (fun w hS => Y.sub hF rfl rfl) rfl fun a hF => ?_
           refine oneV (i := 68) rfl ?_ trivial
           refine guard_on hF rfl rfl hbv_8 ?_
           refine O.callP (us := [.agg #[.int .i64 rv_10.1.Low, .int .i64 rv_10.1.High], .int .i64 (wr (e_7 - e_9))]) ca_35 hF hS (remontoirref00_Has_ok hS.stab rv_10.1 (wr (e_7 - e_9)) rv_14 hx_24) rfl rfl fun a w hF hS => ?_
           refine nil (then_n ⟨hS.weak (ms := [(1, .cells b [.int .i64 c.Hours, .slice p c.Rates.length c_1, .slice p_1 c.Opens.length c_2, .slice p_2 c.Pairs.length c_3] 26), (2, .cells b_1 [.int .i64 n.a0, .int .i64 n.a1, .int .i64 n.a2, .int .i64 n.a3] 52), (3, .cells b_2 [.int .i64 rv_2.2.Hours, .slice p_5 rv_2.2.Rates.length c_6, .slice p_6 rv_2.2.Opens.length c_7, .slice p_7 rv_2.2.Pairs.length c_8] 26), (4, .cells b_3 [.int .i64 rv_8.1.Low, .int .i64 rv_8.1.High] 34), (5, .cells b_4 [.int .i64 rv_9.1.Low, .int .i64 rv_9.1.High] 34), (6, .cells b_5 [.int .i64 rv_10.1.Low, .int .i64 rv_10.1.High] 34)]) ⟨rfl, rfl, rfl, rfl, rfl, rfl, trivial⟩, ?_⟩)
           refine stepV (i := 69) rfl hF (fun w hS => Y.pick_t hF rfl hbv_8 rfl) rfl fun a hF => ?_
           exact toTailV ⟨hF.weak ⟨rfl, rfl, rfl, trivial⟩, hS.weak ⟨rfl, rfl, rfl, rfl, rfl, rfl, trivial⟩⟩
          ·skip
           replace ht_7 := cond_f ht_7 hbv_8
           obtain rfl := some_inj ht_7
           refine stepV (i := 0) rfl hF (fun w hS => Y.move hF rfl) rfl fun a hF => ?_
           refine stepV (i := 1) rfl hF (fun w hS => Y.eql hF rfl rfl) rfl fun a hF => ?_
           refine stepV (i := 2) rfl hF (fun w hS => Y.move hF rfl) rfl fun a hF => ?_
           refine stepV_on (i := 3) rfl hF rfl rfl hbv_1 (fun w hS => Y.move hF rfl) rfl fun a hF => ?_
           refine stepV_on (i := 4) rfl hF rfl rfl hbv_1 (fun w hS => Y.eql hF rfl rfl) rfl fun a hF => ?_
           refine stepV (i := 5) rfl hF (fun w hS => Y.pick_t hF rfl hbv_1 rfl) rfl fun a hF => ?_
           refine stepV (i := 6) rfl hF (fun w hS => Y.move hF rfl) rfl fun a hF => ?_
           refine stepV_on (i := 7) rfl hF rfl rfl hbv_2 (fun w hS => Y.move hF rfl) rfl fun a hF => ?_
           refine stepV_on (i := 8) rfl hF rfl rfl hbv_2 (fun w hS => Y.eql hF rfl rfl) rfl fun a hF => ?_
           refine stepV (i := 9) rfl hF (fun w hS => Y.pick_t hF rfl hbv_2 rfl) rfl fun a hF => ?_
           refine stepV (i := 10) rfl hF (fun w hS => Y.move hF rfl) rfl fun a hF => ?_
           refine stepV_on (i := 11) rfl hF rfl rfl hbv_3 (fun w hS => Y.move hF rfl) rfl fun a hF => ?_
           refine stepV_on (i := 12) rfl hF rfl rfl hbv_3 (fun w hS => Y.eql hF rfl rfl) rfl fun a hF => ?_
           refine stepV (i := 13) rfl hF (fun w hS => Y.pick_t hF rfl hbv_3 rfl) rfl fun a hF => ?_
           refine stepV (i := 14) rfl hF (fun w hS => Y.move hF rfl) rfl fun a hF => ?_
           refine stepV_on (i := 15) rfl hF rfl rfl hbv_4 (fun w hS => Y.move hF rfl) rfl fun a hF => ?_
           refine stepV_on (i := 16) rfl hF rfl rfl hbv_4 (fun w hS => Y.eql hF rfl rfl) rfl fun a hF => ?_
           refine stepV (i := 17) rfl hF (fun w hS => Y.pick_t hF rfl hbv_4 rfl) rfl fun a hF => ?_
           refine stepV (i := 18) rfl hF (fun w hS => Y.move hF rfl) rfl fun a hF => ?_
           refine stepV_on (i := 19) rfl hF rfl rfl hbv_5 (fun w hS => Y.move hF rfl) rfl fun a hF => ?_
           refine stepV (i := 20) rfl hF (fun w hS => Y.pick_t hF rfl hbv_5 rfl) rfl fun a hF => ?_
           refine stepV (i := 21) rfl hF (fun w hS => Y.move hF rfl) rfl fun a hF => ?_
           refine stepV_on (i := 22) rfl hF rfl rfl hbv_6 (fun w hS => Y.loadNL 4 sz_34 hF rfl hS rfl rfl rfl) rfl fun a hF => ?_
           refine stepV_on (i := 23) rfl hF rfl rfl hbv_6 (fun w hS => Y.move hF rfl) rfl fun a hF => ?_
           refine stepV_on (i := 24) rfl hF rfl rfl hbv_6 (fun w hS => Y.move hF rfl) rfl fun a hF => ?_
           obtain ⟨b_26, o_20, hE_20, hY_20⟩ := Y.indexS (P := Tryd.prog) (C := (C_sl C_int)) (xs := rv_2.1) (T := 27) (x := (.tmp 114)) (y := (.tmp 115)) u_27 sz_44 hF rfl rfl (hs_4).1 hx_12
           obtain ⟨cc_20, hc_20, hcell_20⟩ := hE_20.open
           obtain ⟨p_19, c_20, rfl, hs_19⟩ := hc_20
           refine stepV_on (i := 25) rfl hF rfl rfl hbv_6 (fun w hS => hY_20) rfl fun a hF => ?_
           refine stepV_on (i := 26) rfl hF rfl rfl hbv_6 (fun w hS => Y.load1 sz_44 hF rfl (hcell_20 _ hS.stab 0 _ rfl)) rfl fun a hF => ?_
           refine stepV_on (i := 27) rfl hF rfl rfl hbv_6 (fun w hS => Y.move hF rfl) rfl fun a hF => ?_
           obtain ⟨b_27, o_21, hE_21, hY_21⟩ := Y.indexS (P := Tryd.prog) (C := C_int) (xs := e) (T := 44) (x := (.tmp 117)) (y := (.tmp 118)) u_44 sz_3 hF rfl rfl (hs_19).1 hx_13
           obtain ⟨cc_21, hc_21, hcell_21⟩ := hE_21.open
           obtain rfl := hc_21
           refine stepV_on (i := 28) rfl hF rfl rfl hbv_6 (fun w hS => hY_21) rfl fun a hF => ?_
           refine stepV_on (i := 29) rfl hF rfl rfl hbv_6 (fun w hS => Y.load1 sz_3 hF rfl (hcell_21 _ hS.stab 0 _ rfl)) rfl fun a hF => ?_
           refine oneV (i := 30) rfl ?_ trivial
           refine guard_on hF rfl rfl hbv_6 ?_
           refine O.callP (us := [.agg #[.int .i64 rv_8.1.Low, .int .i64 rv_8.1.High], .int .i64 e_1]) ca_35 hF hS (remontoirref00_Has_ok hS.stab rv_8.1 e_1 rv_12 hx_14) rfl rfl fun a w hF hS => ?_
           refine nil (then_n ⟨hS.weak (ms := [(1, .cells b [.int .i64 c.Hours, .slice p c.Rates.length c_1, .slice p_1 c.Opens.length c_2, .slice p_2 c.Pairs.length c_3] 26), (2, .cells b_1 [.int .i64 n.a0, .int .i64 n.a1, .int .i64 n.a2, .int .i64 n.a3] 52), (3, .cells b_2 [.int .i64 rv_2.2.Hours, .slice p_5 rv_2.2.Rates.length c_6, .slice p_6 rv_2.2.Opens.length c_7, .slice p_7 rv_2.2.Pairs.length c_8] 26), (4, .cells b_3 [.int .i64 rv_8.1.Low, .int .i64 rv_8.1.High] 34), (5, .cells b_4 [.int .i64 rv_9.1.Low, .int .i64 rv_9.1.High] 34), (6, .cells b_5 [.int .i64 rv_10.1.Low, .int .i64 rv_10.1.High] 34)]) ⟨rfl, rfl, rfl, rfl, rfl, rfl, trivial⟩, ?_⟩)
           refine stepV (i := 31) rfl hF (fun w hS => Y.pick_t hF rfl hbv_6 rfl) rfl fun a hF => ?_
           refine stepV (i := 32) rfl hF (fun w hS => Y.move hF rfl) rfl fun a hF => ?_
           refine stepV_on (i := 33) rfl hF rfl rfl hbv_7 (fun w hS => Y.loadNL 5 sz_34 hF rfl hS rfl rfl rfl) rfl fun a hF => ?_
           refine stepV_on (i := 34) rfl hF rfl rfl hbv_7 (fun w hS => Y.move hF rfl) rfl fun a hF => ?_
           refine stepV_on (i := 35) rfl hF rfl rfl hbv_7 (fun w hS => Y.move hF rfl) rfl fun a hF => ?_
           obtain ⟨b_28, o_22, hE_22, hY_22⟩ := Y.indexS (P := Tryd.prog) (C := (C_sl C_int)) (xs := rv_2.1) (T := 27) (x := (.tmp 125)) (y := (.tmp 126)) u_27 sz_44 hF rfl rfl (hs_4).1 hx_15
           obtain ⟨cc_22, hc_22, hcell_22⟩ := hE_22.open
           obtain ⟨p_20, c_21, rfl, hs_20⟩ := hc_22
           refine stepV_on (i := 36) rfl hF rfl rfl hbv_7 (fun w hS => hY_22) rfl fun a hF => ?_
           refine stepV_on (i := 37) rfl hF rfl rfl hbv_7 (fun w hS => Y.load1 sz_44 hF rfl (hcell_22 _ hS.stab 0 _ rfl)) rfl fun a hF => ?_
           refine stepV_on (i := 38) rfl hF rfl rfl hbv_7 (fun w hS => Y.move hF rfl) rfl fun a hF => ?_
           obtain ⟨b_29, o_23, hE_23, hY_23⟩ := Y.indexS (P := Tryd.prog) (C := C_int) (xs := e_2) (T := 44) (x := (.tmp 128)) (y := (.tmp 129)) u_44 sz_3 hF rfl rfl (hs_20).1 hx_16
           obtain ⟨cc_23, hc_23, hcell_23⟩ := hE_23.open
           obtain rfl := hc_23
           refine stepV_on (i := 39) rfl hF rfl rfl hbv_7 (fun w hS => hY_23) rfl fun a hF => ?_
           refine stepV_on (i := 40) rfl hF rfl rfl hbv_7 (fun w hS => Y.load1 sz_3 hF rfl (hcell_23 _ hS.stab 0 _ rfl)) rfl fun a hF => ?_
           refine stepV_on (i := 41) rfl hF rfl rfl hbv_7 (fun w hS => Y.move hF rfl) rfl fun a hF => ?_
           refine stepV_on (i := 42) rfl hF rfl rfl hbv_7 (fun w hS => Y.move hF rfl) rfl fun a hF => ?_
           obtain ⟨b_30, o_24, hE_24, hY_24⟩ := Y.indexS (P := Tryd.prog) (C := (C_sl C_int)) (xs := rv_2.1) (T := 27) (x := (.tmp 132)) (y := (.tmp 133)) u_27 sz_44 hF rfl rfl (hs_4).1 hx_17
           obtain ⟨cc_24, hc_24, hcell_24⟩ := hE_24.open
           obtain ⟨p_21, c_22, rfl, hs_21⟩ := hc_24
           refine stepV_on (i := 43) rfl hF rfl rfl hbv_7 (fun w hS => hY_24) rfl fun a hF => ?_
           refine stepV_on (i := 44) rfl hF rfl rfl hbv_7 (fun w hS => Y.load1 sz_44 hF rfl (hcell_24 _ hS.stab 0 _ rfl)) rfl fun a hF => ?_
           refine stepV_on (i := 45) rfl hF rfl rfl hbv_7 (fun w hS => Y.move hF rfl) rfl fun a hF => ?_
           obtain ⟨b_31, o_25, hE_25, hY_25⟩ := Y.indexS (P := Tryd.prog) (C := C_int) (xs := e_4) (T := 44) (x := (.tmp 135)) (y := (.tmp 136)) u_44 sz_3 hF rfl rfl (hs_21).1 hx_18
           obtain ⟨cc_25, hc_25, hcell_25⟩ := hE_25.open
           obtain rfl := hc_25
           refine stepV_on (i := 46) rfl hF rfl rfl hbv_7 (fun w hS => hY_25) rfl fun a hF => ?_
           refine stepV_on (i := 47) rfl hF rfl rfl hbv_7 (fun w hS => Y.load1 sz_3 hF rfl (hcell_25 _ hS.stab 0 _ rfl)) rfl fun a hF => ?_
           refine stepV_on (i := 48) rfl hF rfl rfl hbv_7 (fun w hS => Y.sub hF rfl rfl) rfl fun a hF => ?_
           refine oneV (i := 49) rfl ?_ trivial
           refine guard_on hF rfl rfl hbv_7 ?_
           refine O.callP (us := [.agg #[.int .i64 rv_9.1.Low, .int .i64 rv_9.1.High], .int .i64 (wr (e_3 - e_5))]) ca_35 hF hS (remontoirref00_Has_ok hS.stab rv_9.1 (wr (e_3 - e_5)) rv_13 hx_19) rfl rfl fun a w hF hS => ?_
           refine nil (then_n ⟨hS.weak (ms := [(1, .cells b [.int .i64 c.Hours, .slice p c.Rates.length c_1, .slice p_1 c.Opens.length c_2, .slice p_2 c.Pairs.length c_3] 26), (2, .cells b_1 [.int .i64 n.a0, .int .i64 n.a1, .int .i64 n.a2, .int .i64 n.a3] 52), (3, .cells b_2 [.int .i64 rv_2.2.Hours, .slice p_5 rv_2.2.Rates.length c_6, .slice p_6 rv_2.2.Opens.length c_7, .slice p_7 rv_2.2.Pairs.length c_8] 26), (4, .cells b_3 [.int .i64 rv_8.1.Low, .int .i64 rv_8.1.High] 34), (5, .cells b_4 [.int .i64 rv_9.1.Low, .int .i64 rv_9.1.High] 34), (6, .cells b_5 [.int .i64 rv_10.1.Low, .int .i64 rv_10.1.High] 34)]) ⟨rfl, rfl, rfl, rfl, rfl, rfl, trivial⟩, ?_⟩)
           refine stepV (i := 50) rfl hF (fun w hS => Y.pick_t hF rfl hbv_7 rfl) rfl fun a hF => ?_
           refine stepV (i := 51) rfl hF (fun w hS => Y.move hF rfl) rfl fun a hF => ?_
           refine stepV_off (i := 52) rfl hF rfl rfl hbv_8 rfl fun a hF => ?_
           refine stepV_off (i := 53) rfl hF rfl rfl hbv_8 rfl fun a hF => ?_
           refine stepV_off (i := 54) rfl hF rfl rfl hbv_8 rfl fun a hF => ?_
           refine stepV_off (i := 55) rfl hF rfl rfl hbv_8 rfl fun a hF => ?_
           refine stepV_off (i := 56) rfl hF rfl rfl hbv_8 rfl fun a hF => ?_
           refine stepV_off (i := 57) rfl hF rfl rfl hbv_8 rfl fun a hF => ?_
           refine stepV_off (i := 58) rfl hF rfl rfl hbv_8 rfl fun a hF => ?_
           refine stepV_off (i := 59) rfl hF rfl rfl hbv_8 rfl fun a hF => ?_
           refine stepV_off (i := 60) rfl hF rfl rfl hbv_8 rfl fun a hF => ?_
           refine stepV_off (i := 61) rfl hF rfl rfl hbv_8 rfl fun a hF => ?_
           refine stepV_off (i := 62) rfl hF rfl rfl hbv_8 rfl fun a hF => ?_
           refine stepV_off (i := 63) rfl hF rfl rfl hbv_8 rfl fun a hF => ?_
           refine stepV_off (i := 64) rfl hF rfl rfl hbv_8 rfl fun a hF => ?_
           refine stepV_off (i := 65) rfl hF rfl rfl hbv_8 rfl fun a hF => ?_
           refine stepV_off (i := 66) rfl hF rfl rfl hbv_8 rfl fun a hF => ?_
           refine stepV_off (i := 67) rfl hF rfl rfl hbv_8 rfl fun a hF => ?_
           refine oneV (i := 68) rfl ?_ trivial
           refine guard_off hF rfl rfl hbv_8 rfl fun a hF => nil (then_n ⟨hS.weak (ms := [(1, .cells b [.int .i64 c.Hours, .slice p c.Rates.length c_1, .slice p_1 c.Opens.length c_2, .slice p_2 c.Pairs.length c_3] 26), (2, .cells b_1 [.int .i64 n.a0, .int .i64 n.a1, .int .i64 n.a2, .int .i64 n.a3] 52), (3, .cells b_2 [.int .i64 rv_2.2.Hours, .slice p_5 rv_2.2.Rates.length c_6, .slice p_6 rv_2.2.Opens.length c_7, .slice p_7 rv_2.2.Pairs.length c_8] 26), (4, .cells b_3 [.int .i64 rv_8.1.Low, .int .i64 rv_8.1.High] 34), (5, .cells b_4 [.int .i64 rv_9.1.Low, .int .i64 rv_9.1.High] 34), (6, .cells b_5 [.int .i64 rv_10.1.Low, .int .i64 rv_10.1.High] 34)]) ⟨rfl, rfl, rfl, rfl, rfl, rfl, trivial⟩, ?_⟩)
           refine stepV (i := 69) rfl hF (fun w hS => Y.pick_f hF rfl hbv_8 rfl) rfl fun a hF => ?_
           exact toTailV ⟨hF.weak ⟨rfl, rfl, rfl, trivial⟩, hS.weak ⟨rfl, rfl, rfl, rfl, rfl, rfl, trivial⟩⟩
         ·skip
          replace ht_6 := cond_f ht_6 hbv_7
          obtain rfl := some_inj ht_6
          replace ht_7 := cond_f ht_7 rfl
          obtain rfl := some_inj ht_7
          refine stepV (i := 0) rfl hF (fun w hS => Y.move hF rfl) rfl fun a hF => ?_
          refine stepV (i := 1) rfl hF (fun w hS => Y.eql hF rfl rfl) rfl fun a hF => ?_
          refine stepV (i := 2) rfl hF (fun w hS => Y.move hF rfl) rfl fun a hF => ?_
          refine stepV_on (i := 3) rfl hF rfl rfl hbv_1 (fun w hS => Y.move hF rfl) rfl fun a hF => ?_
          refine stepV_on (i := 4) rfl hF rfl rfl hbv_1 (fun w hS => Y.eql hF rfl rfl) rfl fun a hF => ?_
          refine stepV (i := 5) rfl hF (fun w hS => Y.pick_t hF rfl hbv_1 rfl) rfl fun a hF => ?_
          refine stepV (i := 6) rfl hF (fun w hS => Y.move hF rfl) rfl fun a hF => ?_
          refine stepV_on (i := 7) rfl hF rfl rfl hbv_2 (fun w hS => Y.move hF rfl) rfl fun a hF => ?_
          refine stepV_on (i := 8) rfl hF rfl rfl hbv_2 (fun w hS => Y.eql hF rfl rfl) rfl fun a hF => ?_
          refine stepV (i := 9) rfl hF (fun w hS => Y.pick_t hF rfl hbv_2 rfl) rfl fun a hF => ?_
          refine stepV (i := 10) rfl hF (fun w hS => Y.move hF rfl) rfl fun a hF => ?_
          refine stepV_on (i := 11) rfl hF rfl rfl hbv_3 (fun w hS => Y.move hF rfl) rfl fun a hF => ?_
          refine stepV_on (i := 12) rfl hF rfl rfl hbv_3 (fun w hS => Y.eql hF rfl rfl) rfl fun a hF => ?_
          refine stepV (i := 13) rfl hF (fun w hS => Y.pick_t hF rfl hbv_3 rfl) rfl fun a hF => ?_
          refine stepV (i := 14) rfl hF (fun w hS => Y.move hF rfl) rfl fun a hF => ?_
          refine stepV_on (i := 15) rfl hF rfl rfl hbv_4 (fun w hS => Y.move hF rfl) rfl fun a hF => ?_
          refine stepV_on (i := 16) rfl hF rfl rfl hbv_4 (fun w hS => Y.eql hF rfl rfl) rfl fun a hF => ?_
          refine stepV (i := 17) rfl hF (fun w hS => Y.pick_t hF rfl hbv_4 rfl) rfl fun a hF => ?_
          refine stepV (i := 18) rfl hF (fun w hS => Y.move hF rfl) rfl fun a hF => ?_
          refine stepV_on (i := 19) rfl hF rfl rfl hbv_5 (fun w hS => Y.move hF rfl) rfl fun a hF => ?_
          refine stepV (i := 20) rfl hF (fun w hS => Y.pick_t hF rfl hbv_5 rfl) rfl fun a hF => ?_
          refine stepV (i := 21) rfl hF (fun w hS => Y.move hF rfl) rfl fun a hF => ?_
          refine stepV_on (i := 22) rfl hF rfl rfl hbv_6 (fun w hS => Y.loadNL 4 sz_34 hF rfl hS rfl rfl rfl) rfl fun a hF => ?_
          refine stepV_on (i := 23) rfl hF rfl rfl hbv_6 (fun w hS => Y.move hF rfl) rfl fun a hF => ?_
          refine stepV_on (i := 24) rfl hF rfl rfl hbv_6 (fun w hS => Y.move hF rfl) rfl fun a hF => ?_
          obtain ⟨b_32, o_26, hE_26, hY_26⟩ := Y.indexS (P := Tryd.prog) (C := (C_sl C_int)) (xs := rv_2.1) (T := 27) (x := (.tmp 114)) (y := (.tmp 115)) u_27 sz_44 hF rfl rfl (hs_4).1 hx_12
          obtain ⟨cc_26, hc_26, hcell_26⟩ := hE_26.open
          obtain ⟨p_22, c_23, rfl, hs_22⟩ := hc_26
          refine stepV_on (i := 25) rfl hF rfl rfl hbv_6 (fun w hS => hY_26) rfl fun a hF => ?_
          refine stepV_on (i := 26) rfl hF rfl rfl hbv_6 (fun w hS => Y.load1 sz_44 hF rfl (hcell_26 _ hS.stab 0 _ rfl)) rfl fun a hF => ?_
          refine stepV_on (i := 27) rfl hF rfl rfl hbv_6 (fun w hS => Y.move hF rfl) rfl fun a hF => ?_
          obtain ⟨b_33, o_27, hE_27, hY_27⟩ := Y.indexS (P := Tryd.prog) (C := C_int) (xs := e) (T := 44) (x := (.tmp 117)) (y := (.tmp 118)) u_44 sz_3 hF rfl rfl (hs_22).1 hx_13
          obtain ⟨cc_27, hc_27, hcell_27⟩ := hE_27.open
          obtain rfl := hc_27
          refine stepV_on (i := 28) rfl hF rfl rfl hbv_6 (fun w hS => hY_27) rfl fun a hF => ?_
          refine stepV_on (i := 29) rfl hF rfl rfl hbv_6 (fun w hS => Y.load1 sz_3 hF rfl (hcell_27 _ hS.stab 0 _ rfl)) rfl fun a hF => ?_
          refine oneV (i := 30) rfl ?_ trivial
          refine guard_on hF rfl rfl hbv_6 ?_
          refine O.callP (us := [.agg #[.int .i64 rv_8.1.Low, .int .i64 rv_8.1.High], .int .i64 e_1]) ca_35 hF hS (remontoirref00_Has_ok hS.stab rv_8.1 e_1 rv_12 hx_14) rfl rfl fun a w hF hS => ?_
          refine nil (then_n ⟨hS.weak (ms := [(1, .cells b [.int .i64 c.Hours, .slice p c.Rates.length c_1, .slice p_1 c.Opens.length c_2, .slice p_2 c.Pairs.length c_3] 26), (2, .cells b_1 [.int .i64 n.a0, .int .i64 n.a1, .int .i64 n.a2, .int .i64 n.a3] 52), (3, .cells b_2 [.int .i64 rv_2.2.Hours, .slice p_5 rv_2.2.Rates.length c_6, .slice p_6 rv_2.2.Opens.length c_7, .slice p_7 rv_2.2.Pairs.length c_8] 26), (4, .cells b_3 [.int .i64 rv_8.1.Low, .int .i64 rv_8.1.High] 34), (5, .cells b_4 [.int .i64 rv_9.1.Low, .int .i64 rv_9.1.High] 34), (6, .cells b_5 [.int .i64 rv_10.1.Low, .int .i64 rv_10.1.High] 34)]) ⟨rfl, rfl, rfl, rfl, rfl, rfl, trivial⟩, ?_⟩)
          refine stepV (i := 31) rfl hF (fun w hS => Y.pick_t hF rfl hbv_6 rfl) rfl fun a hF => ?_
          refine stepV (i := 32) rfl hF (fun w hS => Y.move hF rfl) rfl fun a hF => ?_
          refine stepV_off (i := 33) rfl hF rfl rfl hbv_7 rfl fun a hF => ?_
          refine stepV_off (i := 34) rfl hF rfl rfl hbv_7 rfl fun a hF => ?_
          refine stepV_off (i := 35) rfl hF rfl rfl hbv_7 rfl fun a hF => ?_
          refine stepV_off (i := 36) rfl hF rfl rfl hbv_7 rfl fun a hF => ?_
          refine stepV_off (i := 37) rfl hF rfl rfl hbv_7 rfl fun a hF => ?_
          refine stepV_off (i := 38) rfl hF rfl rfl hbv_7 rfl fun a hF => ?_
          refine stepV_off (i := 39) rfl hF rfl rfl hbv_7 rfl fun a hF => ?_
          refine stepV_off (i := 40) rfl hF rfl rfl hbv_7 rfl fun a hF => ?_
          refine stepV_off (i := 41) rfl hF rfl rfl hbv_7 rfl fun a hF => ?_
          refine stepV_off (i := 42) rfl hF rfl rfl hbv_7 rfl fun a hF => ?_
          refine stepV_off (i := 43) rfl hF rfl rfl hbv_7 rfl fun a hF => ?_
          refine stepV_off (i := 44) rfl hF rfl rfl hbv_7 rfl fun a hF => ?_
          refine stepV_off (i := 45) rfl hF rfl rfl hbv_7 rfl fun a hF => ?_
          refine stepV_off (i := 46) rfl hF rfl rfl hbv_7 rfl fun a hF => ?_
          refine stepV_off (i := 47) rfl hF rfl rfl hbv_7 rfl fun a hF => ?_
          refine stepV_off (i := 48) rfl hF rfl rfl hbv_7 rfl fun a hF => ?_
          refine oneV (i := 49) rfl ?_ trivial
          refine guard_off hF rfl rfl hbv_7 rfl fun a hF => nil (then_n ⟨hS.weak (ms := [(1, .cells b [.int .i64 c.Hours, .slice p c.Rates.length c_1, .slice p_1 c.Opens.length c_2, .slice p_2 c.Pairs.length c_3] 26), (2, .cells b_1 [.int .i64 n.a0, .int .i64 n.a1, .int .i64 n.a2, .int .i64 n.a3] 52), (3, .cells b_2 [.int .i64 rv_2.2.Hours, .slice p_5 rv_2.2.Rates.length c_6, .slice p_6 rv_2.2.Opens.length c_7, .slice p_7 rv_2.2.Pairs.length c_8] 26), (4, .cells b_3 [.int .i64 rv_8.1.Low, .int .i64 rv_8.1.High] 34), (5, .cells b_4 [.int .i64 rv_9.1.Low, .int .i64 rv_9.1.High] 34), (6, .cells b_5 [.int .i64 rv_10.1.Low, .int .i64 rv_10.1.High] 34)]) ⟨rfl, rfl, rfl, rfl, rfl, rfl, trivial⟩, ?_⟩)
          refine stepV (i := 50) rfl hF (fun w hS => Y.pick_f hF rfl hbv_7 rfl) rfl fun a hF => ?_
          refine stepV (i := 51) rfl hF (fun w hS => Y.move hF rfl) rfl fun a hF => ?_
          refine stepV_off (i := 52) rfl hF rfl rfl rfl rfl fun a hF => ?_
          refine stepV_off (i := 53) rfl hF rfl rfl rfl rfl fun a hF => ?_
          refine stepV_off (i := 54) rfl hF rfl rfl rfl rfl fun a hF => ?_
          refine stepV_off (i := 55) rfl hF rfl rfl rfl rfl fun a hF => ?_
          refine stepV_off (i := 56) rfl hF rfl rfl rfl rfl fun a hF => ?_
          refine stepV_off (i := 57) rfl hF rfl rfl rfl rfl fun a hF => ?_
          refine stepV_off (i := 58) rfl hF rfl rfl rfl rfl fun a hF => ?_
          refine stepV_off (i := 59) rfl hF rfl rfl rfl rfl fun a hF => ?_
          refine stepV_off (i := 60) rfl hF rfl rfl rfl rfl fun a hF => ?_
          refine stepV_off (i := 61) rfl hF rfl rfl rfl rfl fun a hF => ?_
          refine stepV_off (i := 62) rfl hF rfl rfl rfl rfl fun a hF => ?_
          refine stepV_off (i := 63) rfl hF rfl rfl rfl rfl fun a hF => ?_
          refine stepV_off (i := 64) rfl hF rfl rfl rfl rfl fun a hF => ?_
          refine stepV_off (i := 65) rfl hF rfl rfl rfl rfl fun a hF => ?_
          refine stepV_off (i := 66) rfl hF rfl rfl rfl rfl fun a hF => ?_
          refine stepV_off (i := 67) rfl hF rfl rfl rfl rfl fun a hF => ?_
          refine oneV (i := 68) rfl ?_ trivial
          refine guard_off hF rfl rfl rfl rfl fun a hF => nil (then_n ⟨hS.weak (ms := [(1, .cells b [.int .i64 c.Hours, .slice p c.Rates.length c_1, .slice p_1 c.Opens.length c_2, .slice p_2 c.Pairs.length c_3] 26), (2, .cells b_1 [.int .i64 n.a0, .int .i64 n.a1, .int .i64 n.a2, .int .i64 n.a3] 52), (3, .cells b_2 [.int .i64 rv_2.2.Hours, .slice p_5 rv_2.2.Rates.length c_6, .slice p_6 rv_2.2.Opens.length c_7, .slice p_7 rv_2.2.Pairs.length c_8] 26), (4, .cells b_3 [.int .i64 rv_8.1.Low, .int .i64 rv_8.1.High] 34), (5, .cells b_4 [.int .i64 rv_9.1.Low, .int .i64 rv_9.1.High] 34), (6, .cells b_5 [.int .i64 rv_10.1.Low, .int .i64 rv_10.1.High] 34)]) ⟨rfl, rfl, rfl, rfl, rfl, rfl, trivial⟩, ?_⟩)
          refine stepV (i := 69) rfl hF (fun w hS => Y.pick_f hF rfl rfl rfl) rfl fun a hF => ?_
          exact toTailV ⟨hF.weak ⟨rfl, rfl, rfl, trivial⟩, hS.weak ⟨rfl, rfl, rfl, rfl, rfl, rfl, trivial⟩⟩
        ·skip
         replace ht_5 := cond_f ht_5 hbv_6
         obtain rfl := some_inj ht_5
         replace ht_6 := cond_f ht_6 rfl
         obtain rfl := some_inj ht_6
         replace ht_7 := cond_f ht_7 rfl
         obtain rfl := some_inj ht_7
         refine stepV (i := 0) rfl hF (fun w hS => Y.move hF rfl) rfl fun a hF => ?_
         refine stepV (i := 1) rfl hF (fun w hS => Y.eql hF rfl rfl) rfl fun a hF => ?_
         refine stepV (i := 2) rfl hF (fun w hS => Y.move hF rfl) rfl fun a hF => ?_
         refine stepV_on (i := 3) rfl hF rfl rfl hbv_1 (fun w hS => Y.move hF rfl) rfl fun a hF => ?_
         refine stepV_on (i := 4) rfl hF rfl rfl hbv_1 (fun w hS => Y.eql hF rfl rfl) rfl fun a hF => ?_
         refine stepV (i := 5) rfl hF (fun w hS => Y.pick_t hF rfl hbv_1 rfl) rfl fun a hF => ?_
         refine stepV (i := 6) rfl hF (fun w hS => Y.move hF rfl) rfl fun a hF => ?_
         refine stepV_on (i := 7) rfl hF rfl rfl hbv_2 (fun w hS => Y.move hF rfl) rfl fun a hF => ?_
         refine stepV_on (i := 8) rfl hF rfl rfl hbv_2 (fun w hS => Y.eql hF rfl rfl) rfl fun a hF => ?_
         refine stepV (i := 9) rfl hF (fun w hS => Y.pick_t hF rfl hbv_2 rfl) rfl fun a hF => ?_
         refine stepV (i := 10) rfl hF (fun w hS => Y.move hF rfl) rfl fun a hF => ?_
         refine stepV_on (i := 11) rfl hF rfl rfl hbv_3 (fun w hS => Y.move hF rfl) rfl fun a hF => ?_
         refine stepV_on (i := 12) rfl hF rfl rfl hbv_3 (fun w hS => Y.eql hF rfl rfl) rfl fun a hF => ?_
         refine stepV (i := 13) rfl hF (fun w hS => Y.pick_t hF rfl hbv_3 rfl) rfl fun a hF => ?_
         refine stepV (i := 14) rfl hF (fun w hS => Y.move hF rfl) rfl fun a hF => ?_
         refine stepV_on (i := 15) rfl hF rfl rfl hbv_4 (fun w hS => Y.move hF rfl) rfl fun a hF => ?_
         refine stepV_on (i := 16) rfl hF rfl rfl hbv_4 (fun w hS => Y.eql hF rfl rfl) rfl fun a hF => ?_
         refine stepV (i := 17) rfl hF (fun w hS => Y.pick_t hF rfl hbv_4 rfl) rfl fun a hF => ?_
         refine stepV (i := 18) rfl hF (fun w hS => Y.move hF rfl) rfl fun a hF => ?_
         refine stepV_on (i := 19) rfl hF rfl rfl hbv_5 (fun w hS => Y.move hF rfl) rfl fun a hF => ?_
         refine stepV (i := 20) rfl hF (fun w hS => Y.pick_t hF rfl hbv_5 rfl) rfl fun a hF => ?_
         refine stepV (i := 21) rfl hF (fun w hS => Y.move hF rfl) rfl fun a hF => ?_
         refine stepV_off (i := 22) rfl hF rfl rfl hbv_6 rfl fun a hF => ?_
         refine stepV_off (i := 23) rfl hF rfl rfl hbv_6 rfl fun a hF => ?_
         refine stepV_off (i := 24) rfl hF rfl rfl hbv_6 rfl fun a hF => ?_
         refine stepV_off (i := 25) rfl hF rfl rfl hbv_6 rfl fun a hF => ?_
         refine stepV_off (i := 26) rfl hF rfl rfl hbv_6 rfl fun a hF => ?_
         refine stepV_off (i := 27) rfl hF rfl rfl hbv_6 rfl fun a hF => ?_
         refine stepV_off (i := 28) rfl hF rfl rfl hbv_6 rfl fun a hF => ?_
         refine stepV_off (i := 29) rfl hF rfl rfl hbv_6 rfl fun a hF => ?_
         refine oneV (i := 30) rfl ?_ trivial
         refine guard_off hF rfl rfl hbv_6 rfl fun a hF => nil (then_n ⟨hS.weak (ms := [(1, .cells b [.int .i64 c.Hours, .slice p c.Rates.length c_1, .slice p_1 c.Opens.length c_2, .slice p_2 c.Pairs.length c_3] 26), (2, .cells b_1 [.int .i64 n.a0, .int .i64 n.a1, .int .i64 n.a2, .int .i64 n.a3] 52), (3, .cells b_2 [.int .i64 rv_2.2.Hours, .slice p_5 rv_2.2.Rates.length c_6, .slice p_6 rv_2.2.Opens.length c_7, .slice p_7 rv_2.2.Pairs.length c_8] 26), (4, .cells b_3 [.int .i64 rv_8.1.Low, .int .i64 rv_8.1.High] 34), (5, .cells b_4 [.int .i64 rv_9.1.Low, .int .i64 rv_9.1.High] 34), (6, .cells b_5 [.int .i64 rv_10.1.Low, .int .i64 rv_10.1.High] 34)]) ⟨rfl, rfl, rfl, rfl, rfl, rfl, trivial⟩, ?_⟩)
         refine stepV (i := 31) rfl hF (fun w hS => Y.pick_f hF rfl hbv_6 rfl) rfl fun a hF => ?_
         refine stepV (i := 32) rfl hF (fun w hS => Y.move hF rfl) rfl fun a hF => ?_
         refine stepV_off (i := 33) rfl hF rfl rfl rfl rfl fun a hF => ?_
         refine stepV_off (i := 34) rfl hF rfl rfl rfl rfl fun a hF => ?_
         refine stepV_off (i := 35) rfl hF rfl rfl rfl rfl fun a hF => ?_
         refine stepV_off (i := 36) rfl hF rfl rfl rfl rfl fun a hF => ?_
         refine stepV_off (i := 37) rfl hF rfl rfl rfl rfl fun a hF => ?_
         refine stepV_off (i := 38) rfl hF rfl rfl rfl rfl fun a hF => ?_
         refine stepV_off (i := 39) rfl hF rfl rfl rfl rfl fun a hF => ?_
         refine stepV_off (i := 40) rfl hF rfl rfl rfl rfl fun a hF => ?_
         refine stepV_off (i := 41) rfl hF rfl rfl rfl rfl fun a hF => ?_
         refine stepV_off (i := 42) rfl hF rfl rfl rfl rfl fun a hF => ?_
         refine stepV_off (i := 43) rfl hF rfl rfl rfl rfl fun a hF => ?_
         refine stepV_off (i := 44) rfl hF rfl rfl rfl rfl fun a hF => ?_
         refine stepV_off (i := 45) rfl hF rfl rfl rfl rfl fun a hF => ?_
         refine stepV_off (i := 46) rfl hF rfl rfl rfl rfl fun a hF => ?_
         refine stepV_off (i := 47) rfl hF rfl rfl rfl rfl fun a hF => ?_
         refine stepV_off (i := 48) rfl hF rfl rfl rfl rfl fun a hF => ?_
         refine oneV (i := 49) rfl ?_ trivial
         refine guard_off hF rfl rfl rfl rfl fun a hF => nil (then_n ⟨hS.weak (ms := [(1, .cells b [.int .i64 c.Hours, .slice p c.Rates.length c_1, .slice p_1 c.Opens.length c_2, .slice p_2 c.Pairs.length c_3] 26), (2, .cells b_1 [.int .i64 n.a0, .int .i64 n.a1, .int .i64 n.a2, .int .i64 n.a3] 52), (3, .cells b_2 [.int .i64 rv_2.2.Hours, .slice p_5 rv_2.2.Rates.length c_6, .slice p_6 rv_2.2.Opens.length c_7, .slice p_7 rv_2.2.Pairs.length c_8] 26), (4, .cells b_3 [.int .i64 rv_8.1.Low, .int .i64 rv_8.1.High] 34), (5, .cells b_4 [.int .i64 rv_9.1.Low, .int .i64 rv_9.1.High] 34), (6, .cells b_5 [.int .i64 rv_10.1.Low, .int .i64 rv_10.1.High] 34)]) ⟨rfl, rfl, rfl, rfl, rfl, rfl, trivial⟩, ?_⟩)
         refine stepV (i := 50) rfl hF (fun w hS => Y.pick_f hF rfl rfl rfl) rfl fun a hF => ?_
         refine stepV (i := 51) rfl hF (fun w hS => Y.move hF rfl) rfl fun a hF => ?_
         refine stepV_off (i := 52) rfl hF rfl rfl rfl rfl fun a hF => ?_
         refine stepV_off (i := 53) rfl hF rfl rfl rfl rfl fun a hF => ?_
         refine stepV_off (i := 54) rfl hF rfl rfl rfl rfl fun a hF => ?_
         refine stepV_off (i := 55) rfl hF rfl rfl rfl rfl fun a hF => ?_
         refine stepV_off (i := 56) rfl hF rfl rfl rfl rfl fun a hF => ?_
         refine stepV_off (i := 57) rfl hF rfl rfl rfl rfl fun a hF => ?_
         refine stepV_off (i := 58) rfl hF rfl rfl rfl rfl fun a hF => ?_
         refine stepV_off (i := 59) rfl hF rfl rfl rfl rfl fun a hF => ?_
         refine stepV_off (i := 60) rfl hF rfl rfl rfl rfl fun a hF => ?_
         refine stepV_off (i := 61) rfl hF rfl rfl rfl rfl fun a hF => ?_
         refine stepV_off (i := 62) rfl hF rfl rfl rfl rfl fun a hF => ?_
         refine stepV_off (i := 63) rfl hF rfl rfl rfl rfl fun a hF => ?_
         refine stepV_off (i := 64) rfl hF rfl rfl rfl rfl fun a hF => ?_
         refine stepV_off (i := 65) rfl hF rfl rfl rfl rfl fun a hF => ?_
         refine stepV_off (i := 66) rfl hF rfl rfl rfl rfl fun a hF => ?_
         refine stepV_off (i := 67) rfl hF rfl rfl rfl rfl fun a hF => ?_
         refine oneV (i := 68) rfl ?_ trivial
         refine guard_off hF rfl rfl rfl rfl fun a hF => nil (then_n ⟨hS.weak (ms := [(1, .cells b [.int .i64 c.Hours, .slice p c.Rates.length c_1, .slice p_1 c.Opens.length c_2, .slice p_2 c.Pairs.length c_3] 26), (2, .cells b_1 [.int .i64 n.a0, .int .i64 n.a1, .int .i64 n.a2, .int .i64 n.a3] 52), (3, .cells b_2 [.int .i64 rv_2.2.Hours, .slice p_5 rv_2.2.Rates.length c_6, .slice p_6 rv_2.2.Opens.length c_7, .slice p_7 rv_2.2.Pairs.length c_8] 26), (4, .cells b_3 [.int .i64 rv_8.1.Low, .int .i64 rv_8.1.High] 34), (5, .cells b_4 [.int .i64 rv_9.1.Low, .int .i64 rv_9.1.High] 34), (6, .cells b_5 [.int .i64 rv_10.1.Low, .int .i64 rv_10.1.High] 34)]) ⟨rfl, rfl, rfl, rfl, rfl, rfl, trivial⟩, ?_⟩)
         refine stepV (i := 69) rfl hF (fun w hS => Y.pick_f hF rfl rfl rfl) rfl fun a hF => ?_
         exact toTailV ⟨hF.weak ⟨rfl, rfl, rfl, trivial⟩, hS.weak ⟨rfl, rfl, rfl, rfl, rfl, rfl, trivial⟩⟩
       ·skip
        replace ht_4 := cond_f ht_4 hbv_5
        obtain rfl := some_inj ht_4
        replace ht_5 := cond_f ht_5 rfl
        obtain rfl := some_inj ht_5
        replace ht_6 := cond_f ht_6 rfl
        obtain rfl := some_inj ht_6
        replace ht_7 := cond_f ht_7 rfl
        obtain rfl := some_inj ht_7
        refine stepV (i := 0) rfl hF (fun w hS => Y.move hF rfl) rfl fun a hF => ?_
        refine stepV (i := 1) rfl hF (fun w hS => Y.eql hF rfl rfl) rfl fun a hF => ?_
        refine stepV (i := 2) rfl hF (fun w hS => Y.move hF rfl) rfl fun a hF => ?_
        refine stepV_on (i := 3) rfl hF rfl rfl hbv_1 (fun w hS => Y.move hF rfl) rfl fun a hF => ?_
        refine stepV_on (i := 4) rfl hF rfl rfl hbv_1 (fun w hS => Y.eql hF rfl rfl) rfl fun a hF => ?_
        refine stepV (i := 5) rfl hF (fun w hS => Y.pick_t hF rfl hbv_1 rfl) rfl fun a hF => ?_
        refine stepV (i := 6) rfl hF (fun w hS => Y.move hF rfl) rfl fun a hF => ?_
        refine stepV_on (i := 7) rfl hF rfl rfl hbv_2 (fun w hS => Y.move hF rfl) rfl fun a hF => ?_
        refine stepV_on (i := 8) rfl hF rfl rfl hbv_2 (fun w hS => Y.eql hF rfl rfl) rfl fun a hF => ?_
        refine stepV (i := 9) rfl hF (fun w hS => Y.pick_t hF rfl hbv_2 rfl) rfl fun a hF => ?_
        refine stepV (i := 10) rfl hF (fun w hS => Y.move hF rfl) rfl fun a hF => ?_
        refine stepV_on (i := 11) rfl hF rfl rfl hbv_3 (fun w hS => Y.move hF rfl) rfl fun a hF => ?_
        refine stepV_on (i := 12) rfl hF rfl rfl hbv_3 (fun w hS => Y.eql hF rfl rfl) rfl fun a hF => ?_
        refine stepV (i := 13) rfl hF (fun w hS => Y.pick_t hF rfl hbv_3 rfl) rfl fun a hF => ?_
        refine stepV (i := 14) rfl hF (fun w hS => Y.move hF rfl) rfl fun a hF => ?_
        refine stepV_on (i := 15) rfl hF rfl rfl hbv_4 (fun w hS => Y.move hF rfl) rfl fun a hF => ?_
        refine stepV_on (i := 16) rfl hF rfl rfl hbv_4 (fun w hS => Y.eql hF rfl rfl) rfl fun a hF => ?_
        refine stepV (i := 17) rfl hF (fun w hS => Y.pick_t hF rfl hbv_4 rfl) rfl fun a hF => ?_
        refine stepV (i := 18) rfl hF (fun w hS => Y.move hF rfl) rfl fun a hF => ?_
        refine stepV_off (i := 19) rfl hF rfl rfl hbv_5 rfl fun a hF => ?_
        refine stepV (i := 20) rfl hF (fun w hS => Y.pick_f hF rfl hbv_5 rfl) rfl fun a hF => ?_
        refine stepV (i := 21) rfl hF (fun w hS => Y.move hF rfl) rfl fun a hF => ?_
        refine stepV_off (i := 22) rfl hF rfl rfl rfl rfl fun a hF => ?_
        refine stepV_off (i := 23) rfl hF rfl rfl rfl rfl fun a hF => ?_
        refine stepV_off (i := 24) rfl hF rfl rfl rfl rfl fun a hF => ?_
        refine stepV_off (i := 25) rfl hF rfl rfl rfl rfl fun a hF => ?_
        refine stepV_off (i := 26) rfl hF rfl rfl rfl rfl fun a hF => ?_
        refine stepV_off (i := 27) rfl hF rfl rfl rfl rfl fun a hF => ?_
        refine stepV_off (i := 28) rfl hF rfl rfl rfl rfl fun a hF => ?_
        refine stepV_off (i := 29) rfl hF rfl rfl rfl rfl fun a hF => ?_
        refine oneV (i := 30) rfl ?_ trivial
        refine guard_off hF rfl rfl rfl rfl fun a hF => nil (then_n ⟨hS.weak (ms := [(1, .cells b [.int .i64 c.Hours, .slice p c.Rates.length c_1, .slice p_1 c.Opens.length c_2, .slice p_2 c.Pairs.length c_3] 26), (2, .cells b_1 [.int .i64 n.a0, .int .i64 n.a1, .int .i64 n.a2, .int .i64 n.a3] 52), (3, .cells b_2 [.int .i64 rv_2.2.Hours, .slice p_5 rv_2.2.Rates.length c_6, .slice p_6 rv_2.2.Opens.length c_7, .slice p_7 rv_2.2.Pairs.length c_8] 26), (4, .cells b_3 [.int .i64 rv_8.1.Low, .int .i64 rv_8.1.High] 34), (5, .cells b_4 [.int .i64 rv_9.1.Low, .int .i64 rv_9.1.High] 34), (6, .cells b_5 [.int .i64 rv_10.1.Low, .int .i64 rv_10.1.High] 34)]) ⟨rfl, rfl, rfl, rfl, rfl, rfl, trivial⟩, ?_⟩)
        refine stepV (i := 31) rfl hF (fun w hS => Y.pick_f hF rfl rfl rfl) rfl fun a hF => ?_
        refine stepV (i := 32) rfl hF (fun w hS => Y.move hF rfl) rfl fun a hF => ?_
        refine stepV_off (i := 33) rfl hF rfl rfl rfl rfl fun a hF => ?_
        refine stepV_off (i := 34) rfl hF rfl rfl rfl rfl fun a hF => ?_
        refine stepV_off (i := 35) rfl hF rfl rfl rfl rfl fun a hF => ?_
        refine stepV_off (i := 36) rfl hF rfl rfl rfl rfl fun a hF => ?_
        refine stepV_off (i := 37) rfl hF rfl rfl rfl rfl fun a hF => ?_
        refine stepV_off (i := 38) rfl hF rfl rfl rfl rfl fun a hF => ?_
        refine stepV_off (i := 39) rfl hF rfl rfl rfl rfl fun a hF => ?_
        refine stepV_off (i := 40) rfl hF rfl rfl rfl rfl fun a hF => ?_
        refine stepV_off (i := 41) rfl hF rfl rfl rfl rfl fun a hF => ?_
        refine stepV_off (i := 42) rfl hF rfl rfl rfl rfl fun a hF => ?_
        refine stepV_off (i := 43) rfl hF rfl rfl rfl rfl fun a hF => ?_
        refine stepV_off (i := 44) rfl hF rfl rfl rfl rfl fun a hF => ?_
        refine stepV_off (i := 45) rfl hF rfl rfl rfl rfl fun a hF => ?_
        refine stepV_off (i := 46) rfl hF rfl rfl rfl rfl fun a hF => ?_
        refine stepV_off (i := 47) rfl hF rfl rfl rfl rfl fun a hF => ?_
        refine stepV_off (i := 48) rfl hF rfl rfl rfl rfl fun a hF => ?_
        refine oneV (i := 49) rfl ?_ trivial
        refine guard_off hF rfl rfl rfl rfl fun a hF => nil (then_n ⟨hS.weak (ms := [(1, .cells b [.int .i64 c.Hours, .slice p c.Rates.length c_1, .slice p_1 c.Opens.length c_2, .slice p_2 c.Pairs.length c_3] 26), (2, .cells b_1 [.int .i64 n.a0, .int .i64 n.a1, .int .i64 n.a2, .int .i64 n.a3] 52), (3, .cells b_2 [.int .i64 rv_2.2.Hours, .slice p_5 rv_2.2.Rates.length c_6, .slice p_6 rv_2.2.Opens.length c_7, .slice p_7 rv_2.2.Pairs.length c_8] 26), (4, .cells b_3 [.int .i64 rv_8.1.Low, .int .i64 rv_8.1.High] 34), (5, .cells b_4 [.int .i64 rv_9.1.Low, .int .i64 rv_9.1.High] 34), (6, .cells b_5 [.int .i64 rv_10.1.Low, .int .i64 rv_10.1.High] 34)]) ⟨rfl, rfl, rfl, rfl, rfl, rfl, trivial⟩, ?_⟩)
        refine stepV (i := 50) rfl hF (fun w hS => Y.pick_f hF rfl rfl rfl) rfl fun a hF => ?_
        refine stepV (i := 51) rfl hF (fun w hS => Y.move hF rfl) rfl fun a hF => ?_
        refine stepV_off (i := 52) rfl hF rfl rfl rfl rfl fun a hF => ?_
        refine stepV_off (i := 53) rfl hF rfl rfl rfl rfl fun a hF => ?_
        refine stepV_off (i := 54) rfl hF rfl rfl rfl rfl fun a hF => ?_
        refine stepV_off (i := 55) rfl hF rfl rfl rfl rfl fun a hF => ?_
        refine stepV_off (i := 56) rfl hF rfl rfl rfl rfl fun a hF => ?_
        refine stepV_off (i := 57) rfl hF rfl rfl rfl rfl fun a hF => ?_
        refine stepV_off (i := 58) rfl hF rfl rfl rfl rfl fun a hF => ?_
        refine stepV_off (i := 59) rfl hF rfl rfl rfl rfl fun a hF => ?_
        refine stepV_off (i := 60) rfl hF rfl rfl rfl rfl fun a hF => ?_
        refine stepV_off (i := 61) rfl hF rfl rfl rfl rfl fun a hF => ?_
        refine stepV_off (i := 62) rfl hF rfl rfl rfl rfl fun a hF => ?_
        refine stepV_off (i := 63) rfl hF rfl rfl rfl rfl fun a hF => ?_
        refine stepV_off (i := 64) rfl hF rfl rfl rfl rfl fun a hF => ?_
        refine stepV_off (i := 65) rfl hF rfl rfl rfl rfl fun a hF => ?_
        refine stepV_off (i := 66) rfl hF rfl rfl rfl rfl fun a hF => ?_
        refine stepV_off (i := 67) rfl hF rfl rfl rfl rfl fun a hF => ?_
        refine oneV (i := 68) rfl ?_ trivial
        refine guard_off hF rfl rfl rfl rfl fun a hF => nil (then_n ⟨hS.weak (ms := [(1, .cells b [.int .i64 c.Hours, .slice p c.Rates.length c_1, .slice p_1 c.Opens.length c_2, .slice p_2 c.Pairs.length c_3] 26), (2, .cells b_1 [.int .i64 n.a0, .int .i64 n.a1, .int .i64 n.a2, .int .i64 n.a3] 52), (3, .cells b_2 [.int .i64 rv_2.2.Hours, .slice p_5 rv_2.2.Rates.length c_6, .slice p_6 rv_2.2.Opens.length c_7, .slice p_7 rv_2.2.Pairs.length c_8] 26), (4, .cells b_3 [.int .i64 rv_8.1.Low, .int .i64 rv_8.1.High] 34), (5, .cells b_4 [.int .i64 rv_9.1.Low, .int .i64 rv_9.1.High] 34), (6, .cells b_5 [.int .i64 rv_10.1.Low, .int .i64 rv_10.1.High] 34)]) ⟨rfl, rfl, rfl, rfl, rfl, rfl, trivial⟩, ?_⟩)
        refine stepV (i := 69) rfl hF (fun w hS => Y.pick_f hF rfl rfl rfl) rfl fun a hF => ?_
        exact toTailV ⟨hF.weak ⟨rfl, rfl, rfl, trivial⟩, hS.weak ⟨rfl, rfl, rfl, rfl, rfl, rfl, trivial⟩⟩
      ·skip
       replace ht_3 := cond_f ht_3 hbv_4
       obtain rfl := some_inj ht_3
       replace ht_4 := cond_f ht_4 rfl
       obtain rfl := some_inj ht_4
       replace ht_5 := cond_f ht_5 rfl
       obtain rfl := some_inj ht_5
       replace ht_6 := cond_f ht_6 rfl
       obtain rfl := some_inj ht_6
       replace ht_7 := cond_f ht_7 rfl
       obtain rfl := some_inj ht_7
       refine stepV (i := 0) rfl hF (fun w hS => Y.move hF rfl) rfl fun a hF => ?_
       refine stepV (i := 1) rfl hF (fun w hS => Y.eql hF rfl rfl) rfl fun a hF => ?_
       refine stepV (i := 2) rfl hF (fun w hS => Y.move hF rfl) rfl fun a hF => ?_
       refine stepV_on (i := 3) rfl hF rfl rfl hbv_1 (fun w hS => Y.move hF rfl) rfl fun a hF => ?_
       refine stepV_on (i := 4) rfl hF rfl rfl hbv_1 (fun w hS => Y.eql hF rfl rfl) rfl fun a hF => ?_
       refine stepV (i := 5) rfl hF (fun w hS => Y.pick_t hF rfl hbv_1 rfl) rfl fun a hF => ?_
       refine stepV (i := 6) rfl hF (fun w hS => Y.move hF rfl) rfl fun a hF => ?_
       refine stepV_on (i := 7) rfl hF rfl rfl hbv_2 (fun w hS => Y.move hF rfl) rfl fun a hF => ?_
       refine stepV_on (i := 8) rfl hF rfl rfl hbv_2 (fun w hS => Y.eql hF rfl rfl) rfl fun a hF => ?_
       refine stepV (i := 9) rfl hF (fun w hS => Y.pick_t hF rfl hbv_2 rfl) rfl fun a hF => ?_
       refine stepV (i := 10) rfl hF (fun w hS => Y.move hF rfl) rfl fun a hF => ?_
       refine stepV_on (i := 11) rfl hF rfl rfl hbv_3 (fun w hS => Y.move hF rfl) rfl fun a hF => ?_
       refine stepV_on (i := 12) rfl hF rfl rfl hbv_3 (fun w hS => Y.eql hF rfl rfl) rfl fun a hF => ?_
       refine stepV (i := 13) rfl hF (fun w hS => Y.pick_t hF rfl hbv_3 rfl) rfl fun a hF => ?_
       refine stepV (i := 14) rfl hF (fun w hS => Y.move hF rfl) rfl fun a hF => ?_
       refine stepV_off (i := 15) rfl hF rfl rfl hbv_4 rfl fun a hF => ?_
       refine stepV_off (i := 16) rfl hF rfl rfl hbv_4 rfl fun a hF => ?_
       refine stepV (i := 17) rfl hF (fun w hS => Y.pick_f hF rfl hbv_4 rfl) rfl fun a hF => ?_
       refine stepV (i := 18) rfl hF (fun w hS => Y.move hF rfl) rfl fun a hF => ?_
       refine stepV_off (i := 19) rfl hF rfl rfl rfl rfl fun a hF => ?_
       refine stepV (i := 20) rfl hF (fun w hS => Y.pick_f hF rfl rfl rfl) rfl fun a hF => ?_
       refine stepV (i := 21) rfl hF (fun w hS => Y.move hF rfl) rfl fun a hF => ?_
       refine stepV_off (i := 22) rfl hF rfl rfl rfl rfl fun a hF => ?_
       refine stepV_off (i := 23) rfl hF rfl rfl rfl rfl fun a hF => ?_
       refine stepV_off (i := 24) rfl hF rfl rfl rfl rfl fun a hF => ?_
       refine stepV_off (i := 25) rfl hF rfl rfl rfl rfl fun a hF => ?_
       refine stepV_off (i := 26) rfl hF rfl rfl rfl rfl fun a hF => ?_
       refine stepV_off (i := 27) rfl hF rfl rfl rfl rfl fun a hF => ?_
       refine stepV_off (i := 28) rfl hF rfl rfl rfl rfl fun a hF => ?_
       refine stepV_off (i := 29) rfl hF rfl rfl rfl rfl fun a hF => ?_
       refine oneV (i := 30) rfl ?_ trivial
       refine guard_off hF rfl rfl rfl rfl fun a hF => nil (then_n ⟨hS.weak (ms := [(1, .cells b [.int .i64 c.Hours, .slice p c.Rates.length c_1, .slice p_1 c.Opens.length c_2, .slice p_2 c.Pairs.length c_3] 26), (2, .cells b_1 [.int .i64 n.a0, .int .i64 n.a1, .int .i64 n.a2, .int .i64 n.a3] 52), (3, .cells b_2 [.int .i64 rv_2.2.Hours, .slice p_5 rv_2.2.Rates.length c_6, .slice p_6 rv_2.2.Opens.length c_7, .slice p_7 rv_2.2.Pairs.length c_8] 26), (4, .cells b_3 [.int .i64 rv_8.1.Low, .int .i64 rv_8.1.High] 34), (5, .cells b_4 [.int .i64 rv_9.1.Low, .int .i64 rv_9.1.High] 34), (6, .cells b_5 [.int .i64 rv_10.1.Low, .int .i64 rv_10.1.High] 34)]) ⟨rfl, rfl, rfl, rfl, rfl, rfl, trivial⟩, ?_⟩)
       refine stepV (i := 31) rfl hF (fun w hS => Y.pick_f hF rfl rfl rfl) rfl fun a hF => ?_
       refine stepV (i := 32) rfl hF (fun w hS => Y.move hF rfl) rfl fun a hF => ?_
       refine stepV_off (i := 33) rfl hF rfl rfl rfl rfl fun a hF => ?_
       refine stepV_off (i := 34) rfl hF rfl rfl rfl rfl fun a hF => ?_
       refine stepV_off (i := 35) rfl hF rfl rfl rfl rfl fun a hF => ?_
       refine stepV_off (i := 36) rfl hF rfl rfl rfl rfl fun a hF => ?_
       refine stepV_off (i := 37) rfl hF rfl rfl rfl rfl fun a hF => ?_
       refine stepV_off (i := 38) rfl hF rfl rfl rfl rfl fun a hF => ?_
       refine stepV_off (i := 39) rfl hF rfl rfl rfl rfl fun a hF => ?_
       refine stepV_off (i := 40) rfl hF rfl rfl rfl rfl fun a hF => ?_
       refine stepV_off (i := 41) rfl hF rfl rfl rfl rfl fun a hF => ?_
       refine stepV_off (i := 42) rfl hF rfl rfl rfl rfl fun a hF => ?_
       refine stepV_off (i := 43) rfl hF rfl rfl rfl rfl fun a hF => ?_
       refine stepV_off (i := 44) rfl hF rfl rfl rfl rfl fun a hF => ?_
       refine stepV_off (i := 45) rfl hF rfl rfl rfl rfl fun a hF => ?_
       refine stepV_off (i := 46) rfl hF rfl rfl rfl rfl fun a hF => ?_
       refine stepV_off (i := 47) rfl hF rfl rfl rfl rfl fun a hF => ?_
       refine stepV_off (i := 48) rfl hF rfl rfl rfl rfl fun a hF => ?_
       refine oneV (i := 49) rfl ?_ trivial
       refine guard_off hF rfl rfl rfl rfl fun a hF => nil (then_n ⟨hS.weak (ms := [(1, .cells b [.int .i64 c.Hours, .slice p c.Rates.length c_1, .slice p_1 c.Opens.length c_2, .slice p_2 c.Pairs.length c_3] 26), (2, .cells b_1 [.int .i64 n.a0, .int .i64 n.a1, .int .i64 n.a2, .int .i64 n.a3] 52), (3, .cells b_2 [.int .i64 rv_2.2.Hours, .slice p_5 rv_2.2.Rates.length c_6, .slice p_6 rv_2.2.Opens.length c_7, .slice p_7 rv_2.2.Pairs.length c_8] 26), (4, .cells b_3 [.int .i64 rv_8.1.Low, .int .i64 rv_8.1.High] 34), (5, .cells b_4 [.int .i64 rv_9.1.Low, .int .i64 rv_9.1.High] 34), (6, .cells b_5 [.int .i64 rv_10.1.Low, .int .i64 rv_10.1.High] 34)]) ⟨rfl, rfl, rfl, rfl, rfl, rfl, trivial⟩, ?_⟩)
       refine stepV (i := 50) rfl hF (fun w hS => Y.pick_f hF rfl rfl rfl) rfl fun a hF => ?_
       refine stepV (i := 51) rfl hF (fun w hS => Y.move hF rfl) rfl fun a hF => ?_
       refine stepV_off (i := 52) rfl hF rfl rfl rfl rfl fun a hF => ?_
       refine stepV_off (i := 53) rfl hF rfl rfl rfl rfl fun a hF => ?_
       refine stepV_off (i := 54) rfl hF rfl rfl rfl rfl fun a hF => ?_
       refine stepV_off (i := 55) rfl hF rfl rfl rfl rfl fun a hF => ?_
       refine stepV_off (i := 56) rfl hF rfl rfl rfl rfl fun a hF => ?_
       refine stepV_off (i := 57) rfl hF rfl rfl rfl rfl fun a hF => ?_
       refine stepV_off (i := 58) rfl hF rfl rfl rfl rfl fun a hF => ?_
       refine stepV_off (i := 59) rfl hF rfl rfl rfl rfl fun a hF => ?_
       refine stepV_off (i := 60) rfl hF rfl rfl rfl rfl fun a hF => ?_
       refine stepV_off (i := 61) rfl hF rfl rfl rfl rfl fun a hF => ?_
       refine stepV_off (i := 62) rfl hF rfl rfl rfl rfl fun a hF => ?_
       refine stepV_off (i := 63) rfl hF rfl rfl rfl rfl fun a hF => ?_
       refine stepV_off (i := 64) rfl hF rfl rfl rfl rfl fun a hF => ?_
       refine stepV_off (i := 65) rfl hF rfl rfl rfl rfl fun a hF => ?_
       refine stepV_off (i := 66) rfl hF rfl rfl rfl rfl fun a hF => ?_
       refine stepV_off (i := 67) rfl hF rfl rfl rfl rfl fun a hF => ?_
       refine oneV (i := 68) rfl ?_ trivial
       refine guard_off hF rfl rfl rfl rfl fun a hF => nil (then_n ⟨hS.weak (ms := [(1, .cells b [.int .i64 c.Hours, .slice p c.Rates.length c_1, .slice p_1 c.Opens.length c_2, .slice p_2 c.Pairs.length c_3] 26), (2, .cells b_1 [.int .i64 n.a0, .int .i64 n.a1, .int .i64 n.a2, .int .i64 n.a3] 52), (3, .cells b_2 [.int .i64 rv_2.2.Hours, .slice p_5 rv_2.2.Rates.length c_6, .slice p_6 rv_2.2.Opens.length c_7, .slice p_7 rv_2.2.Pairs.length c_8] 26), (4, .cells b_3 [.int .i64 rv_8.1.Low, .int .i64 rv_8.1.High] 34), (5, .cells b_4 [.int .i64 rv_9.1.Low, .int .i64 rv_9.1.High] 34), (6, .cells b_5 [.int .i64 rv_10.1.Low, .int .i64 rv_10.1.High] 34)]) ⟨rfl, rfl, rfl, rfl, rfl, rfl, trivial⟩, ?_⟩)
       refine stepV (i := 69) rfl hF (fun w hS => Y.pick_f hF rfl rfl rfl) rfl fun a hF => ?_
       exact toTailV ⟨hF.weak ⟨rfl, rfl, rfl, trivial⟩, hS.weak ⟨rfl, rfl, rfl, rfl, rfl, rfl, trivial⟩⟩
     ·skip
      replace ht_2 := cond_f ht_2 hbv_3
      obtain rfl := some_inj ht_2
      replace ht_3 := cond_f ht_3 rfl
      obtain rfl := some_inj ht_3
      replace ht_4 := cond_f ht_4 rfl
      obtain rfl := some_inj ht_4
      replace ht_5 := cond_f ht_5 rfl
      obtain rfl := some_inj ht_5
      replace ht_6 := cond_f ht_6 rfl
      obtain rfl := some_inj ht_6
      replace ht_7 := cond_f ht_7 rfl
      obtain rfl := some_inj ht_7
      refine stepV (i := 0) rfl hF (fun w hS => Y.move hF rfl) rfl fun a hF => ?_
      refine stepV (i := 1) rfl hF (fun w hS => Y.eql hF rfl rfl) rfl fun a hF => ?_
      refine stepV (i := 2) rfl hF (fun w hS => Y.move hF rfl) rfl fun a hF => ?_
      refine stepV_on (i := 3) rfl hF rfl rfl hbv_1 (fun w hS => Y.move hF rfl) rfl fun a hF => ?_
      refine stepV_on (i := 4) rfl hF rfl rfl hbv_1 (fun w hS => Y.eql hF rfl rfl) rfl fun a hF => ?_
      refine stepV (i := 5) rfl hF (fun w hS => Y.pick_t hF rfl hbv_1 rfl) rfl fun a hF => ?_
      refine stepV (i := 6) rfl hF (fun w hS => Y.move hF rfl) rfl fun a hF => ?_
      refine stepV_on (i := 7) rfl hF rfl rfl hbv_2 (fun w hS => Y.move hF rfl) rfl fun a hF => ?_
      refine stepV_on (i := 8) rfl hF rfl rfl hbv_2 (fun w hS => Y.eql hF rfl rfl) rfl fun a hF => ?_
      refine stepV (i := 9) rfl hF (fun w hS => Y.pick_t hF rfl hbv_2 rfl) rfl fun a hF => ?_
      refine stepV (i := 10) rfl hF (fun w hS => Y.move hF rfl) rfl fun a hF => ?_
      refine stepV_off (i := 11) rfl hF rfl rfl hbv_3 rfl fun a hF => ?_
      refine stepV_off (i := 12) rfl hF rfl rfl hbv_3 rfl fun a hF => ?_
      refine stepV (i := 13) rfl hF (fun w hS => Y.pick_f hF rfl hbv_3 rfl) rfl fun a hF => ?_
      refine stepV (i := 14) rfl hF (fun w hS => Y.move hF rfl) rfl fun a hF => ?_
      refine stepV_off (i := 15) rfl hF rfl rfl rfl rfl fun a hF => ?_
      refine stepV_off (i := 16) rfl hF rfl rfl rfl rfl fun a hF => ?_
      refine stepV (i := 17) rfl hF (fun w hS => Y.pick_f hF rfl rfl rfl) rfl fun a hF => ?_
      refine stepV (i := 18) rfl hF (fun w hS => Y.move hF rfl) rfl fun a hF => ?_
      refine stepV_off (i := 19) rfl hF rfl rfl rfl rfl fun a hF => ?_
      refine stepV (i := 20) rfl hF (fun w hS => Y.pick_f hF rfl rfl rfl) rfl fun a hF => ?_
      refine stepV (i := 21) rfl hF (fun w hS => Y.move hF rfl) rfl fun a hF => ?_
      refine stepV_off (i := 22) rfl hF rfl rfl rfl rfl fun a hF => ?_
      refine stepV_off (i := 23) rfl hF rfl rfl rfl rfl fun a hF => ?_
      refine stepV_off (i := 24) rfl hF rfl rfl rfl rfl fun a hF => ?_
      refine stepV_off (i := 25) rfl hF rfl rfl rfl rfl fun a hF => ?_
      refine stepV_off (i := 26) rfl hF rfl rfl rfl rfl fun a hF => ?_
      refine stepV_off (i := 27) rfl hF rfl rfl rfl rfl fun a hF => ?_
      refine stepV_off (i := 28) rfl hF rfl rfl rfl rfl fun a hF => ?_
      refine stepV_off (i := 29) rfl hF rfl rfl rfl rfl fun a hF => ?_
      refine oneV (i := 30) rfl ?_ trivial
      refine guard_off hF rfl rfl rfl rfl fun a hF => nil (then_n ⟨hS.weak (ms := [(1, .cells b [.int .i64 c.Hours, .slice p c.Rates.length c_1, .slice p_1 c.Opens.length c_2, .slice p_2 c.Pairs.length c_3] 26), (2, .cells b_1 [.int .i64 n.a0, .int .i64 n.a1, .int .i64 n.a2, .int .i64 n.a3] 52), (3, .cells b_2 [.int .i64 rv_2.2.Hours, .slice p_5 rv_2.2.Rates.length c_6, .slice p_6 rv_2.2.Opens.length c_7, .slice p_7 rv_2.2.Pairs.length c_8] 26), (4, .cells b_3 [.int .i64 rv_8.1.Low, .int .i64 rv_8.1.High] 34), (5, .cells b_4 [.int .i64 rv_9.1.Low, .int .i64 rv_9.1.High] 34), (6, .cells b_5 [.int .i64 rv_10.1.Low, .int .i64 rv_10.1.High] 34)]) ⟨rfl, rfl, rfl, rfl, rfl, rfl, trivial⟩, ?_⟩)
      refine stepV (i := 31) rfl hF (fun w hS => Y.pick_f hF rfl rfl rfl) rfl fun a hF => ?_
      refine stepV (i := 32) rfl hF (fun w hS => Y.move hF rfl) rfl fun a hF => ?_
      refine stepV_off (i := 33) rfl hF rfl rfl rfl rfl fun a hF => ?_
      refine stepV_off (i := 34) rfl hF rfl rfl rfl rfl fun a hF => ?_
      refine stepV_off (i := 35) rfl hF rfl rfl rfl rfl fun a hF => ?_
      refine stepV_off (i := 36) rfl hF rfl rfl rfl rfl fun a hF => ?_
      refine stepV_off (i := 37) rfl hF rfl rfl rfl rfl fun a hF => ?_
      refine stepV_off (i := 38) rfl hF rfl rfl rfl rfl fun a hF => ?_
      refine stepV_off (i := 39) rfl hF rfl rfl rfl rfl fun a hF => ?_
      refine stepV_off (i := 40) rfl hF rfl rfl rfl rfl fun a hF => ?_
      refine stepV_off (i := 41) rfl hF rfl rfl rfl rfl fun a hF => ?_
      refine stepV_off (i := 42) rfl hF rfl rfl rfl rfl fun a hF => ?_
      refine stepV_off (i := 43) rfl hF rfl rfl rfl rfl fun a hF => ?_
      refine stepV_off (i := 44) rfl hF rfl rfl rfl rfl fun a hF => ?_
      refine stepV_off (i := 45) rfl hF rfl rfl rfl rfl fun a hF => ?_
      refine stepV_off (i := 46) rfl hF rfl rfl rfl rfl fun a hF => ?_
      refine stepV_off (i := 47) rfl hF rfl rfl rfl rfl fun a hF => ?_
      refine stepV_off (i := 48) rfl hF rfl rfl rfl rfl fun a hF => ?_
      refine oneV (i := 49) rfl ?_ trivial
      refine guard_off hF rfl rfl rfl rfl fun a hF => nil (then_n ⟨hS.weak (ms := [(1, .cells b [.int .i64 c.Hours, .slice p c.Rates.length c_1, .slice p_1 c.Opens.length c_2, .slice p_2 c.Pairs.length c_3] 26), (2, .cells b_1 [.int .i64 n.a0, .int .i64 n.a1, .int .i64 n.a2, .int .i64 n.a3] 52), (3, .cells b_2 [.int .i64 rv_2.2.Hours, .slice p_5 rv_2.2.Rates.length c_6, .slice p_6 rv_2.2.Opens.length c_7, .slice p_7 rv_2.2.Pairs.length c_8] 26), (4, .cells b_3 [.int .i64 rv_8.1.Low, .int .i64 rv_8.1.High] 34), (5, .cells b_4 [.int .i64 rv_9.1.Low, .int .i64 rv_9.1.High] 34), (6, .cells b_5 [.int .i64 rv_10.1.Low, .int .i64 rv_10.1.High] 34)]) ⟨rfl, rfl, rfl, rfl, rfl, rfl, trivial⟩, ?_⟩)
      refine stepV (i := 50) rfl hF (fun w hS => Y.pick_f hF rfl rfl rfl) rfl fun a hF => ?_
      refine stepV (i := 51) rfl hF (fun w hS => Y.move hF rfl) rfl fun a hF => ?_
      refine stepV_off (i := 52) rfl hF rfl rfl rfl rfl fun a hF => ?_
      refine stepV_off (i := 53) rfl hF rfl rfl rfl rfl fun a hF => ?_
      refine stepV_off (i := 54) rfl hF rfl rfl rfl rfl fun a hF => ?_
      refine stepV_off (i := 55) rfl hF rfl rfl rfl rfl fun a hF => ?_
      refine stepV_off (i := 56) rfl hF rfl rfl rfl rfl fun a hF => ?_
      refine stepV_off (i := 57) rfl hF rfl rfl rfl rfl fun a hF => ?_
      refine stepV_off (i := 58) rfl hF rfl rfl rfl rfl fun a hF => ?_
      refine stepV_off (i := 59) rfl hF rfl rfl rfl rfl fun a hF => ?_
      refine stepV_off (i := 60) rfl hF rfl rfl rfl rfl fun a hF => ?_
      refine stepV_off (i := 61) rfl hF rfl rfl rfl rfl fun a hF => ?_
      refine stepV_off (i := 62) rfl hF rfl rfl rfl rfl fun a hF => ?_
      refine stepV_off (i := 63) rfl hF rfl rfl rfl rfl fun a hF => ?_
      refine stepV_off (i := 64) rfl hF rfl rfl rfl rfl fun a hF => ?_
      refine stepV_off (i := 65) rfl hF rfl rfl rfl rfl fun a hF => ?_
      refine stepV_off (i := 66) rfl hF rfl rfl rfl rfl fun a hF => ?_
      refine stepV_off (i := 67) rfl hF rfl rfl rfl rfl fun a hF => ?_
      refine oneV (i := 68) rfl ?_ trivial
      refine guard_off hF rfl rfl rfl rfl fun a hF => nil (then_n ⟨hS.weak (ms := [(1, .cells b [.int .i64 c.Hours, .slice p c.Rates.length c_1, .slice p_1 c.Opens.length c_2, .slice p_2 c.Pairs.length c_3] 26), (2, .cells b_1 [.int .i64 n.a0, .int .i64 n.a1, .int .i64 n.a2, .int .i64 n.a3] 52), (3, .cells b_2 [.int .i64 rv_2.2.Hours, .slice p_5 rv_2.2.Rates.length c_6, .slice p_6 rv_2.2.Opens.length c_7, .slice p_7 rv_2.2.Pairs.length c_8] 26), (4, .cells b_3 [.int .i64 rv_8.1.Low, .int .i64 rv_8.1.High] 34), (5, .cells b_4 [.int .i64 rv_9.1.Low, .int .i64 rv_9.1.High] 34), (6, .cells b_5 [.int .i64 rv_10.1.Low, .int .i64 rv_10.1.High] 34)]) ⟨rfl, rfl, rfl, rfl, rfl, rfl, trivial⟩, ?_⟩)
      refine stepV (i := 69) rfl hF (fun w hS => Y.pick_f hF rfl rfl rfl) rfl fun a hF => ?_
      exact toTailV ⟨hF.weak ⟨rfl, rfl, rfl, trivial⟩, hS.weak ⟨rfl, rfl, rfl, rfl, rfl, rfl, trivial⟩⟩
    ·skip
     replace ht_1 := cond_f ht_1 hbv_2
     obtain rfl := some_inj ht_1
     replace ht_2 := cond_f ht_2 rfl
     obtain rfl := some_inj ht_2
     replace ht_3 := cond_f ht_3 rfl
     obtain rfl := some_inj ht_3
     replace ht_4 := cond_f ht_4 rfl
     obtain rfl := some_inj ht_4
     replace ht_5 := cond_f ht_5 rfl
     obtain rfl := some_inj ht_5
     replace ht_6 := cond_f ht_6 rfl
     obtain rfl := some_inj ht_6
     replace ht_7 := cond_f ht_7 rfl
     obtain rfl := some_inj ht_7
     refine stepV (i := 0) rfl hF (fun w hS => Y.move hF rfl) rfl fun a hF => ?_
     refine stepV (i := 1) rfl hF (fun w hS => Y.eql hF rfl rfl) rfl fun a hF => ?_
     refine stepV (i := 2) rfl hF (fun w hS => Y.move hF rfl) rfl fun a hF => ?_
     refine stepV_on (i := 3) rfl hF rfl rfl hbv_1 (fun w hS => Y.move hF rfl) rfl fun a hF => ?_
     refine stepV_on (i := 4) rfl hF rfl rfl hbv_1 (fun w hS => Y.eql hF rfl rfl) rfl fun a hF => ?_
     refine stepV (i := 5) rfl hF (fun w hS => Y.pick_t hF rfl hbv_1 rfl) rfl fun a hF => ?_
     refine stepV (i := 6) rfl hF (fun w hS => Y.move hF rfl) rfl fun a hF => ?_
     refine stepV_off (i := 7) rfl hF rfl rfl hbv_2 rfl fun a hF => ?_
     refine stepV_off (i := 8) rfl hF rfl rfl hbv_2 rfl fun a hF => ?_
     refine stepV (i := 9) rfl hF (fun w hS => Y.pick_f hF rfl hbv_2 rfl) rfl fun a hF => ?_
     refine stepV (i := 10) rfl hF (fun w hS => Y.move hF rfl) rfl fun a hF => ?_
     refine stepV_off (i := 11) rfl hF rfl rfl rfl rfl fun a hF => ?_
     refine stepV_off (i := 12) rfl hF rfl rfl rfl rfl fun a hF => ?_
     refine stepV (i := 13) rfl hF (fun w hS => Y.pick_f hF rfl rfl rfl) rfl fun a hF => ?_
     refine stepV (i := 14) rfl hF (fun w hS => Y.move hF rfl) rfl fun a hF => ?_
     refine stepV_off (i := 15) rfl hF rfl rfl rfl rfl fun a hF => ?_
     refine stepV_off (i := 16) rfl hF rfl rfl rfl rfl fun a hF => ?_
     refine stepV (i := 17) rfl hF (fun w hS => Y.pick_f hF rfl rfl rfl) rfl fun a hF => ?_
     refine stepV (i := 18) rfl hF (fun w hS => Y.move hF rfl) rfl fun a hF => ?_
     refine stepV_off (i := 19) rfl hF rfl rfl rfl rfl fun a hF => ?_
     refine stepV (i := 20) rfl hF (fun w hS => Y.pick_f hF rfl rfl rfl) rfl fun a hF => ?_
     refine stepV (i := 21) rfl hF (fun w hS => Y.move hF rfl) rfl fun a hF => ?_
     refine stepV_off (i := 22) rfl hF rfl rfl rfl rfl fun a hF => ?_
     refine stepV_off (i := 23) rfl hF rfl rfl rfl rfl fun a hF => ?_
     refine stepV_off (i := 24) rfl hF rfl rfl rfl rfl fun a hF => ?_
     refine stepV_off (i := 25) rfl hF rfl rfl rfl rfl fun a hF => ?_
     refine stepV_off (i := 26) rfl hF rfl rfl rfl rfl fun a hF => ?_
     refine stepV_off (i := 27) rfl hF rfl rfl rfl rfl fun a hF => ?_
     refine stepV_off (i := 28) rfl hF rfl rfl rfl rfl fun a hF => ?_
     refine stepV_off (i := 29) rfl hF rfl rfl rfl rfl fun a hF => ?_
     refine oneV (i := 30) rfl ?_ trivial
     refine guard_off hF rfl rfl rfl rfl fun a hF => nil (then_n ⟨hS.weak (ms := [(1, .cells b [.int .i64 c.Hours, .slice p c.Rates.length c_1, .slice p_1 c.Opens.length c_2, .slice p_2 c.Pairs.length c_3] 26), (2, .cells b_1 [.int .i64 n.a0, .int .i64 n.a1, .int .i64 n.a2, .int .i64 n.a3] 52), (3, .cells b_2 [.int .i64 rv_2.2.Hours, .slice p_5 rv_2.2.Rates.length c_6, .slice p_6 rv_2.2.Opens.length c_7, .slice p_7 rv_2.2.Pairs.length c_8] 26), (4, .cells b_3 [.int .i64 rv_8.1.Low, .int .i64 rv_8.1.High] 34), (5, .cells b_4 [.int .i64 rv_9.1.Low, .int .i64 rv_9.1.High] 34), (6, .cells b_5 [.int .i64 rv_10.1.Low, .int .i64 rv_10.1.High] 34)]) ⟨rfl, rfl, rfl, rfl, rfl, rfl, trivial⟩, ?_⟩)
     refine stepV (i := 31) rfl hF (fun w hS => Y.pick_f hF rfl rfl rfl) rfl fun a hF => ?_
     refine stepV (i := 32) rfl hF (fun w hS => Y.move hF rfl) rfl fun a hF => ?_
     refine stepV_off (i := 33) rfl hF rfl rfl rfl rfl fun a hF => ?_
     refine stepV_off (i := 34) rfl hF rfl rfl rfl rfl fun a hF => ?_
     refine stepV_off (i := 35) rfl hF rfl rfl rfl rfl fun a hF => ?_
     refine stepV_off (i := 36) rfl hF rfl rfl rfl rfl fun a hF => ?_
     refine stepV_off (i := 37) rfl hF rfl rfl rfl rfl fun a hF => ?_
     refine stepV_off (i := 38) rfl hF rfl rfl rfl rfl fun a hF => ?_
     refine stepV_off (i := 39) rfl hF rfl rfl rfl rfl fun a hF => ?_
     refine stepV_off (i := 40) rfl hF rfl rfl rfl rfl fun a hF => ?_
     refine stepV_off (i := 41) rfl hF rfl rfl rfl rfl fun a hF => ?_
     refine stepV_off (i := 42) rfl hF rfl rfl rfl rfl fun a hF => ?_
     refine stepV_off (i := 43) rfl hF rfl rfl rfl rfl fun a hF => ?_
     refine stepV_off (i := 44) rfl hF rfl rfl rfl rfl fun a hF => ?_
     refine stepV_off (i := 45) rfl hF rfl rfl rfl rfl fun a hF => ?_
     refine stepV_off (i := 46) rfl hF rfl rfl rfl rfl fun a hF => ?_
     refine stepV_off (i := 47) rfl hF rfl rfl rfl rfl fun a hF => ?_
     refine stepV_off (i := 48) rfl hF rfl rfl rfl rfl fun a hF => ?_
     refine oneV (i := 49) rfl ?_ trivial
     refine guard_off hF rfl rfl rfl rfl fun a hF => nil (then_n ⟨hS.weak (ms := [(1, .cells b [.int .i64 c.Hours, .slice p c.Rates.length c_1, .slice p_1 c.Opens.length c_2, .slice p_2 c.Pairs.length c_3] 26), (2, .cells b_1 [.int .i64 n.a0, .int .i64 n.a1, .int .i64 n.a2, .int .i64 n.a3] 52), (3, .cells b_2 [.int .i64 rv_2.2.Hours, .slice p_5 rv_2.2.Rates.length c_6, .slice p_6 rv_2.2.Opens.length c_7, .slice p_7 rv_2.2.Pairs.length c_8] 26), (4, .cells b_3 [.int .i64 rv_8.1.Low, .int .i64 rv_8.1.High] 34), (5, .cells b_4 [.int .i64 rv_9.1.Low, .int .i64 rv_9.1.High] 34), (6, .cells b_5 [.int .i64 rv_10.1.Low, .int .i64 rv_10.1.High] 34)]) ⟨rfl, rfl, rfl, rfl, rfl, rfl, trivial⟩, ?_⟩)
     refine stepV (i := 50) rfl hF (fun w hS => Y.pick_f hF rfl rfl rfl) rfl fun a hF => ?_
     refine stepV (i := 51) rfl hF (fun w hS => Y.move hF rfl) rfl fun a hF => ?_
     refine stepV_off (i := 52) rfl hF rfl rfl rfl rfl fun a hF => ?_
     refine stepV_off (i := 53) rfl hF rfl rfl rfl rfl fun a hF => ?_
     refine stepV_off (i := 54) rfl hF rfl rfl rfl rfl fun a hF => ?_
     refine stepV_off (i := 55) rfl hF rfl rfl rfl rfl fun a hF => ?_
     refine stepV_off (i := 56) rfl hF rfl rfl rfl rfl fun a hF => ?_
     refine stepV_off (i := 57) rfl hF rfl rfl rfl rfl fun a hF => ?_
     refine stepV_off (i := 58) rfl hF rfl rfl rfl rfl fun a hF => ?_
     refine stepV_off (i := 59) rfl hF rfl rfl rfl rfl fun a hF => ?_
     refine stepV_off (i := 60) rfl hF rfl rfl rfl rfl fun a hF => ?_
     refine stepV_off (i := 61) rfl hF rfl rfl rfl rfl fun a hF => ?_
     refine stepV_off (i := 62) rfl hF rfl rfl rfl rfl fun a hF => ?_
     refine stepV_off (i := 63) rfl hF rfl rfl rfl rfl fun a hF => ?_
     refine stepV_off (i := 64) rfl hF rfl rfl rfl rfl fun a hF => ?_
     refine stepV_off (i := 65) rfl hF rfl rfl rfl rfl fun a hF => ?_
     refine stepV_off (i := 66) rfl hF rfl rfl rfl rfl fun a hF => ?_
     refine stepV_off (i := 67) rfl hF rfl rfl rfl rfl fun a hF => ?_
     refine oneV (i := 68) rfl ?_ trivial
     refine guard_off hF rfl rfl rfl rfl fun a hF => nil (then_n ⟨hS.weak (ms := [(1, .cells b [.int .i64 c.Hours, .slice p c.Rates.length c_1, .slice p_1 c.Opens.length c_2, .slice p_2 c.Pairs.length c_3] 26), (2, .cells b_1 [.int .i64 n.a0, .int .i64 n.a1, .int .i64 n.a2, .int .i64 n.a3] 52), (3, .cells b_2 [.int .i64 rv_2.2.Hours, .slice p_5 rv_2.2.Rates.length c_6, .slice p_6 rv_2.2.Opens.length c_7, .slice p_7 rv_2.2.Pairs.length c_8] 26), (4, .cells b_3 [.int .i64 rv_8.1.Low, .int .i64 rv_8.1.High] 34), (5, .cells b_4 [.int .i64 rv_9.1.Low, .int .i64 rv_9.1.High] 34), (6, .cells b_5 [.int .i64 rv_10.1.Low, .int .i64 rv_10.1.High] 34)]) ⟨rfl, rfl, rfl, rfl, rfl, rfl, trivial⟩, ?_⟩)
     refine stepV (i := 69) rfl hF (fun w hS => Y.pick_f hF rfl rfl rfl) rfl fun a hF => ?_
     exact toTailV ⟨hF.weak ⟨rfl, rfl, rfl, trivial⟩, hS.weak ⟨rfl, rfl, rfl, rfl, rfl, rfl, trivial⟩⟩
   ·skip
    replace ht := cond_f ht hbv_1
    obtain rfl := some_inj ht
    replace ht_1 := cond_f ht_1 rfl
    obtain rfl := some_inj ht_1
    replace ht_2 := cond_f ht_2 rfl
    obtain rfl := some_inj ht_2
    replace ht_3 := cond_f ht_3 rfl
    obtain rfl := some_inj ht_3
    replace ht_4 := cond_f ht_4 rfl
    obtain rfl := some_inj ht_4
    replace ht_5 := cond_f ht_5 rfl
    obtain rfl := some_inj ht_5
    replace ht_6 := cond_f ht_6 rfl
    obtain rfl := some_inj ht_6
    replace ht_7 := cond_f ht_7 rfl
    obtain rfl := some_inj ht_7
    refine stepV (i := 0) rfl hF (fun w hS => Y.move hF rfl) rfl fun a hF => ?_
    refine stepV (i := 1) rfl hF (fun w hS => Y.eql hF rfl rfl) rfl fun a hF => ?_
    refine stepV (i := 2) rfl hF (fun w hS => Y.move hF rfl) rfl fun a hF => ?_
    refine stepV_off (i := 3) rfl hF rfl rfl hbv_1 rfl fun a hF => ?_
    refine stepV_off (i := 4) rfl hF rfl rfl hbv_1 rfl fun a hF => ?_
    refine stepV (i := 5) rfl hF (fun w hS => Y.pick_f hF rfl hbv_1 rfl) rfl fun a hF => ?_
    refine stepV (i := 6) rfl hF (fun w hS => Y.move hF rfl) rfl fun a hF => ?_
    refine stepV_off (i := 7) rfl hF rfl rfl rfl rfl fun a hF => ?_
    refine stepV_off (i := 8) rfl hF rfl rfl rfl rfl fun a hF => ?_
    refine stepV (i := 9) rfl hF (fun w hS => Y.pick_f hF rfl rfl rfl) rfl fun a hF => ?_
    refine stepV (i := 10) rfl hF (fun w hS => Y.move hF rfl) rfl fun a hF => ?_
    refine stepV_off (i := 11) rfl hF rfl rfl rfl rfl fun a hF => ?_
    refine stepV_off (i := 12) rfl hF rfl rfl rfl rfl fun a hF => ?_
    refine stepV (i := 13) rfl hF (fun w hS => Y.pick_f hF rfl rfl rfl) rfl fun a hF => ?_
    refine stepV (i := 14) rfl hF (fun w hS => Y.move hF rfl) rfl fun a hF => ?_
    refine stepV_off (i := 15) rfl hF rfl rfl rfl rfl fun a hF => ?_
    refine stepV_off (i := 16) rfl hF rfl rfl rfl rfl fun a hF => ?_
    refine stepV (i := 17) rfl hF (fun w hS => Y.pick_f hF rfl rfl rfl) rfl fun a hF => ?_
    refine stepV (i := 18) rfl hF (fun w hS => Y.move hF rfl) rfl fun a hF => ?_
    refine stepV_off (i := 19) rfl hF rfl rfl rfl rfl fun a hF => ?_
    refine stepV (i := 20) rfl hF (fun w hS => Y.pick_f hF rfl rfl rfl) rfl fun a hF => ?_
    refine stepV (i := 21) rfl hF (fun w hS => Y.move hF rfl) rfl fun a hF => ?_
    refine stepV_off (i := 22) rfl hF rfl rfl rfl rfl fun a hF => ?_
    refine stepV_off (i := 23) rfl hF rfl rfl rfl rfl fun a hF => ?_
    refine stepV_off (i := 24) rfl hF rfl rfl rfl rfl fun a hF => ?_
    refine stepV_off (i := 25) rfl hF rfl rfl rfl rfl fun a hF => ?_
    refine stepV_off (i := 26) rfl hF rfl rfl rfl rfl fun a hF => ?_
    refine stepV_off (i := 27) rfl hF rfl rfl rfl rfl fun a hF => ?_
    refine stepV_off (i := 28) rfl hF rfl rfl rfl rfl fun a hF => ?_
    refine stepV_off (i := 29) rfl hF rfl rfl rfl rfl fun a hF => ?_
    refine oneV (i := 30) rfl ?_ trivial
    refine guard_off hF rfl rfl rfl rfl fun a hF => nil (then_n ⟨hS.weak (ms := [(1, .cells b [.int .i64 c.Hours, .slice p c.Rates.length c_1, .slice p_1 c.Opens.length c_2, .slice p_2 c.Pairs.length c_3] 26), (2, .cells b_1 [.int .i64 n.a0, .int .i64 n.a1, .int .i64 n.a2, .int .i64 n.a3] 52), (3, .cells b_2 [.int .i64 rv_2.2.Hours, .slice p_5 rv_2.2.Rates.length c_6, .slice p_6 rv_2.2.Opens.length c_7, .slice p_7 rv_2.2.Pairs.length c_8] 26), (4, .cells b_3 [.int .i64 rv_8.1.Low, .int .i64 rv_8.1.High] 34), (5, .cells b_4 [.int .i64 rv_9.1.Low, .int .i64 rv_9.1.High] 34), (6, .cells b_5 [.int .i64 rv_10.1.Low, .int .i64 rv_10.1.High] 34)]) ⟨rfl, rfl, rfl, rfl, rfl, rfl, trivial⟩, ?_⟩)
    refine stepV (i := 31) rfl hF (fun w hS => Y.pick_f hF rfl rfl rfl) rfl fun a hF => ?_
    refine stepV (i := 32) rfl hF (fun w hS => Y.move hF rfl) rfl fun a hF => ?_
    refine stepV_off (i := 33) rfl hF rfl rfl rfl rfl fun a hF => ?_
    refine stepV_off (i := 34) rfl hF rfl rfl rfl rfl fun a hF => ?_
    refine stepV_off (i := 35) rfl hF rfl rfl rfl rfl fun a hF => ?_
    refine stepV_off (i := 36) rfl hF rfl rfl rfl rfl fun a hF => ?_
    refine stepV_off (i := 37) rfl hF rfl rfl rfl rfl fun a hF => ?_
    refine stepV_off (i := 38) rfl hF rfl rfl rfl rfl fun a hF => ?_
    refine stepV_off (i := 39) rfl hF rfl rfl rfl rfl fun a hF => ?_
    refine stepV_off (i := 40) rfl hF rfl rfl rfl rfl fun a hF => ?_
    refine stepV_off (i := 41) rfl hF rfl rfl rfl rfl fun a hF => ?_
    refine stepV_off (i := 42) rfl hF rfl rfl rfl rfl fun a hF => ?_
    refine stepV_off (i := 43) rfl hF rfl rfl rfl rfl fun a hF => ?_
    refine stepV_off (i := 44) rfl hF rfl rfl rfl rfl fun a hF => ?_
    refine stepV_off (i := 45) rfl hF rfl rfl rfl rfl fun a hF => ?_
    refine stepV_off (i := 46) rfl hF rfl rfl rfl rfl fun a hF => ?_
    refine stepV_off (i := 47) rfl hF rfl rfl rfl rfl fun a hF => ?_
    refine stepV_off (i := 48) rfl hF rfl rfl rfl rfl fun a hF => ?_
    refine oneV (i := 49) rfl ?_ trivial
    refine guard_off hF rfl rfl rfl rfl fun a hF => nil (then_n ⟨hS.weak (ms := [(1, .cells b [.int .i64 c.Hours, .slice p c.Rates.length c_1, .slice p_1 c.Opens.length c_2, .slice p_2 c.Pairs.length c_3] 26), (2, .cells b_1 [.int .i64 n.a0, .int .i64 n.a1, .int .i64 n.a2, .int .i64 n.a3] 52), (3, .cells b_2 [.int .i64 rv_2.2.Hours, .slice p_5 rv_2.2.Rates.length c_6, .slice p_6 rv_2.2.Opens.length c_7, .slice p_7 rv_2.2.Pairs.length c_8] 26), (4, .cells b_3 [.int .i64 rv_8.1.Low, .int .i64 rv_8.1.High] 34), (5, .cells b_4 [.int .i64 rv_9.1.Low, .int .i64 rv_9.1.High] 34), (6, .cells b_5 [.int .i64 rv_10.1.Low, .int .i64 rv_10.1.High] 34)]) ⟨rfl, rfl, rfl, rfl, rfl, rfl, trivial⟩, ?_⟩)
    refine stepV (i := 50) rfl hF (fun w hS => Y.pick_f hF rfl rfl rfl) rfl fun a hF => ?_
    refine stepV (i := 51) rfl hF (fun w hS => Y.move hF rfl) rfl fun a hF => ?_
    refine stepV_off (i := 52) rfl hF rfl rfl rfl rfl fun a hF => ?_
    refine stepV_off (i := 53) rfl hF rfl rfl rfl rfl fun a hF => ?_
    refine stepV_off (i := 54) rfl hF rfl rfl rfl rfl fun a hF => ?_
    refine stepV_off (i := 55) rfl hF rfl rfl rfl rfl fun a hF => ?_
    refine stepV_off (i := 56) rfl hF rfl rfl rfl rfl fun a hF => ?_
    refine stepV_off (i := 57) rfl hF rfl rfl rfl rfl fun a hF => ?_
    refine stepV_off (i := 58) rfl hF rfl rfl rfl rfl fun a hF => ?_
    refine stepV_off (i := 59) rfl hF rfl rfl rfl rfl fun a hF => ?_
    refine stepV_off (i := 60) rfl hF rfl rfl rfl rfl fun a hF => ?_
    refine stepV_off (i := 61) rfl hF rfl rfl rfl rfl fun a hF => ?_
    refine stepV_off (i := 62) rfl hF rfl rfl rfl rfl fun a hF => ?_
    refine stepV_off (i := 63) rfl hF rfl rfl rfl rfl fun a hF => ?_
    refine stepV_off (i := 64) rfl hF rfl rfl rfl rfl fun a hF => ?_
    refine stepV_off (i := 65) rfl hF rfl rfl rfl rfl fun a hF => ?_
    refine stepV_off (i := 66) rfl hF rfl rfl rfl rfl fun a hF => ?_
    refine stepV_off (i := 67) rfl hF rfl rfl rfl rfl fun a hF => ?_
    refine oneV (i := 68) rfl ?_ trivial
    refine guard_off hF rfl rfl rfl rfl fun a hF => nil (then_n ⟨hS.weak (ms := [(1, .cells b [.int .i64 c.Hours, .slice p c.Rates.length c_1, .slice p_1 c.Opens.length c_2, .slice p_2 c.Pairs.length c_3] 26), (2, .cells b_1 [.int .i64 n.a0, .int .i64 n.a1, .int .i64 n.a2, .int .i64 n.a3] 52), (3, .cells b_2 [.int .i64 rv_2.2.Hours, .slice p_5 rv_2.2.Rates.length c_6, .slice p_6 rv_2.2.Opens.length c_7, .slice p_7 rv_2.2.Pairs.length c_8] 26), (4, .cells b_3 [.int .i64 rv_8.1.Low, .int .i64 rv_8.1.High] 34), (5, .cells b_4 [.int .i64 rv_9.1.Low, .int .i64 rv_9.1.High] 34), (6, .cells b_5 [.int .i64 rv_10.1.Low, .int .i64 rv_10.1.High] 34)]) ⟨rfl, rfl, rfl, rfl, rfl, rfl, trivial⟩, ?_⟩)
    refine stepV (i := 69) rfl hF (fun w hS => Y.pick_f hF rfl rfl rfl) rfl fun a hF => ?_
    exact toTailV ⟨hF.weak ⟨rfl, rfl, rfl, trivial⟩, hS.weak ⟨rfl, rfl, rfl, rfl, rfl, rfl, trivial⟩⟩
  rintro a w ⟨hF, hS⟩
  refine step hF (Y.move hF rfl) rfl fun a hF => ?_
  refine join (N := 169) (rs := []) (w0 := w0) (D0 := D0) 4 (us := [(6, .bool false), (165, .bool (t_7 && ((rv_11.1.length : Int) == 0)))]) (ms := [(1, .cells b [.int .i64 c.Hours, .slice p c.Rates.length c_1, .slice p_1 c.Opens.length c_2, .slice p_2 c.Pairs.length c_3] 26), (2, .cells b_1 [.int .i64 n.a0, .int .i64 n.a1, .int .i64 n.a2, .int .i64 n.a3] 52), (3, .cells b_2 [.int .i64 rv_2.2.Hours, .slice p_5 rv_2.2.Rates.length c_6, .slice p_6 rv_2.2.Opens.length c_7, .slice p_7 rv_2.2.Pairs.length c_8] 26), (4, .cells b_3 [.int .i64 rv_8.1.Low, .int .i64 rv_8.1.High] 34), (5, .cells b_4 [.int .i64 rv_9.1.Low, .int .i64 rv_9.1.High] 34), (6, .cells b_5 [.int .i64 rv_10.1.Low, .int .i64 rv_10.1.High] 34)]) (D' := Dv_1) ?_ ?_
  ·rcases bcases t_7 with hbv_9 | hbv_9
   ·-- true
    refine guard_on hF rfl rfl hbv_9 ?_
    refine step hF (Y.move hF rfl) rfl fun a hF => ?_
    refine guard_on hF rfl rfl hbv_9 ?_
    refine step hF (Y.lenSl u_44 hF rfl) rfl fun a hF => ?_
    refine guard_on hF rfl rfl hbv_9 ?_
    refine step hF (Y.eql hF rfl rfl) rfl fun a hF => ?_
    refine step hF (Y.pick_t hF rfl hbv_9 rfl) rfl fun a hF => ?_
    exact nil (then_n ⟨hF.weak ⟨rfl, (by rw [hbv_9]; rfl), trivial⟩, hS.weak ⟨rfl, rfl, rfl, rfl, rfl, rfl, trivial⟩⟩)
   ·-- false
    refine guard_off hF rfl rfl hbv_9 rfl fun a hF => ?_
    refine guard_off hF rfl rfl hbv_9 rfl fun a hF => ?_
    refine guard_off hF rfl rfl hbv_9 rfl fun a hF => ?_
    refine step hF (Y.pick_f hF rfl hbv_9 rfl) rfl fun a hF => ?_
    exact nil (then_n ⟨hF.weak ⟨rfl, (by rw [hbv_9]; rfl), trivial⟩, hS.weak ⟨rfl, rfl, rfl, rfl, rfl, rfl, trivial⟩⟩)
  intro a w hF hS
  refine step hF (Y.move hF rfl) rfl fun a hF => ?_
  obtain ⟨t_8, ht_8, h⟩ := bind_some h
  refine join (N := 169) (rs := []) (w0 := w0) (D0 := D0) 2 (us := [(6, .bool false), (168, .bool t_8)]) (ms := [(1, .cells b [.int .i64 c.Hours, .slice p c.Rates.length c_1, .slice p_1 c.Opens.length c_2, .slice p_2 c.Pairs.length c_3] 26), (2, .cells b_1 [.int .i64 n.a0, .int .i64 n.a1, .int .i64 n.a2, .int .i64 n.a3] 52), (3, .cells b_2 [.int .i64 rv_2.2.Hours, .slice p_5 rv_2.2.Rates.length c_6, .slice p_6 rv_2.2.Opens.length c_7, .slice p_7 rv_2.2.Pairs.length c_8] 26), (4, .cells b_3 [.int .i64 rv_8.1.Low, .int .i64 rv_8.1.High] 34), (5, .cells b_4 [.int .i64 rv_9.1.Low, .int .i64 rv_9.1.High] 34), (6, .cells b_5 [.int .i64 rv_10.1.Low, .int .i64 rv_10.1.High] 34)]) (D' := Dv_1) ?_ ?_
  ·rcases bcases (t_7 && ((rv_11.1.length : Int) == 0)) with hbv_10 | hbv_10
   ·-- true
    replace h := cond_t ht_8 hbv_10
    refine guard_on hF rfl rfl hbv_10 ?_
    obtain ⟨rv_15, hx_25, h⟩ := bind_some h
    refine O.callP (us := []) ca_21 hF hS (remontoirlaw02_works_ok hS.stab hG rv_15 hx_25) rfl rfl fun a w hF hS => ?_
    refine step hF (Y.pick_t hF rfl hbv_10 rfl) rfl fun a hF => ?_
    obtain rfl := some_inj h
    exact nil (then_n ⟨hF.weak ⟨rfl, rfl, trivial⟩, hS.weak ⟨rfl, rfl, rfl, rfl, rfl, rfl, trivial⟩⟩)
   ·-- false
    replace h := cond_f ht_8 hbv_10
    refine guard_off hF rfl rfl hbv_10 rfl fun a hF => ?_
    refine step hF (Y.pick_f hF rfl hbv_10 rfl) rfl fun a hF => ?_
    obtain rfl := some_inj h
    exact nil (then_n ⟨hF.weak ⟨rfl, rfl, trivial⟩, hS.weak ⟨rfl, rfl, rfl, rfl, rfl, rfl, trivial⟩⟩)
  intro a w hF hS
  refine step hF (Y.assign hF rfl) rfl fun a hF => ?_
  refine nil (then_n ?_)
  refine ret_ ?_
  obtain rfl := some_inj h
  exact leaveP Tryd.results7 hF hS (.cons (.tmp rfl) .nil) .nil rfl

end Go.Proofs.YtpniidbbbhbglaaDoor.Rt
